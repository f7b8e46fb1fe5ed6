/-
  No cell of these rows narrows 'for every input' (looked for: loops, veiled, ifaces, maps, wideKeys, modest, calm, conditions, laid).
  DERIVED. THE GIVEN ROWS OF THIS SEAT. 12 by the template 'for every input the law returns true; each argument reads behind the call as it read before'; 0 by the template 'total and deterministic' (their statements: YthkgechljfjpdaaTotals.lean).
  GIVEN WITH THE SEED: the statements are not yours to turn. If you find one false, say at which input.
  Laid BY PROGRAM, IN A SANDBOX (cutbox-rows.mjs): the forced cells as the released guide's own fill.sh prints them over the translation 76b2b9b5da40ecf4… (all of the seat's roots in one cut). By AI agents, Wed Nov 11 2026. No macro, syntax, notation, axiom, sorry.
-/
import Derived.Test.YthkgechljfjpdaaChecked
import GoSem.Claim
import GoSem.ClaimJoined
import GoSem.ClaimMapViews
import Derived.JoinedTies
import Derived.KernelRfl
namespace Go.Proofs.Ythkgechljfjpdaa
/- THE CELL 'sum', in the pinned program and in every row, IS THE sha256 OF THE DUMP (.gsa) THAT YthkgechljfjpdaaProg.lean LOADS. Nothing in Lean hashes anything: it is a label: what it is worth is what the hold of that sum in a sandbox is worth. -/
noncomputable def Try.pinned : Pinned := { name := "ythkgechljfjpdaa", sum := "76b2b9b5da40ecf4db2cff9677ca88076f583df7ac13d74f68262a1242733cc8", checked := Try.checked }
namespace Rows
def none {H : Type} : Left H := { results := [], args := [] }

/-- 'laws.FnLeasesPart': WHATEVER THE INPUT: true; the input reads as it did. -/
def fnLeasesPartSpec : ChangeSpec := { name := "fnLeasesPart", fn := fun _ => fun
  | [d1, d2] => { results := [.lit (.bool true)], args := [d1, d2] }
  | _ => none }
def fnLeasesPartRow : OpenClaim := { program := "ythkgechljfjpdaa", sum := "76b2b9b5da40ecf4db2cff9677ca88076f583df7ac13d74f68262a1242733cc8", func := "loop.example/sagaflows/laws.FnLeasesPart", spec := "fnLeasesPart", apart := false }
def FnLeasesPartSaid : Prop := fnLeasesPartRow.holds Try.pinned (OpenSpec.ofChange fnLeasesPartSpec)

/-- ITS FALSE NEIGHBOUR: 'it returns false'. Refute it at one input. -/
def fnLeasesPartWrong : ChangeSpec := { name := "fnLeasesPart", fn := fun _ => fun
  | [d1, d2] => { results := [.lit (.bool false)], args := [d1, d2] }
  | _ => none }
def FnLeasesPartWrongFalsely : Prop := fnLeasesPartRow.holds Try.pinned (OpenSpec.ofChange fnLeasesPartWrong)

/-- 'laws.FnExactLeaseTake': WHATEVER THE INPUT: true; the input reads as it did. -/
def fnExactLeaseTakeSpec : ChangeSpec := { name := "fnExactLeaseTake", fn := fun _ => fun
  | [d1, d2, d3, d4, d5] => { results := [.lit (.bool true)], args := [d1, d2, d3, d4, d5] }
  | _ => none }
def fnExactLeaseTakeRow : OpenClaim := { program := "ythkgechljfjpdaa", sum := "76b2b9b5da40ecf4db2cff9677ca88076f583df7ac13d74f68262a1242733cc8", func := "loop.example/sagaflows/laws.FnExactLeaseTake", spec := "fnExactLeaseTake", inPlace := ["internal/bytealg.abigen_runtime_cmpstring"], unfollowed := true, recurses := true, apart := false }
def FnExactLeaseTakeSaid : Prop := fnExactLeaseTakeRow.holds Try.pinned (OpenSpec.ofChange fnExactLeaseTakeSpec)

/-- ITS FALSE NEIGHBOUR: 'it returns false'. Refute it at one input. -/
def fnExactLeaseTakeWrong : ChangeSpec := { name := "fnExactLeaseTake", fn := fun _ => fun
  | [d1, d2, d3, d4, d5] => { results := [.lit (.bool false)], args := [d1, d2, d3, d4, d5] }
  | _ => none }
def FnExactLeaseTakeWrongFalsely : Prop := fnExactLeaseTakeRow.holds Try.pinned (OpenSpec.ofChange fnExactLeaseTakeWrong)

/-- 'laws.FnExactLeasesValid': WHATEVER THE INPUT: true; the input reads as it did. -/
def fnExactLeasesValidSpec : ChangeSpec := { name := "fnExactLeasesValid", fn := fun _ => fun
  | [d] => { results := [.lit (.bool true)], args := [d] }
  | _ => none }
def fnExactLeasesValidRow : OpenClaim := { program := "ythkgechljfjpdaa", sum := "76b2b9b5da40ecf4db2cff9677ca88076f583df7ac13d74f68262a1242733cc8", func := "loop.example/sagaflows/laws.FnExactLeasesValid", spec := "fnExactLeasesValid", apart := false }
def FnExactLeasesValidSaid : Prop := fnExactLeasesValidRow.holds Try.pinned (OpenSpec.ofChange fnExactLeasesValidSpec)

/-- ITS FALSE NEIGHBOUR: 'it returns false'. Refute it at one input. -/
def fnExactLeasesValidWrong : ChangeSpec := { name := "fnExactLeasesValid", fn := fun _ => fun
  | [d] => { results := [.lit (.bool false)], args := [d] }
  | _ => none }
def FnExactLeasesValidWrongFalsely : Prop := fnExactLeasesValidRow.holds Try.pinned (OpenSpec.ofChange fnExactLeasesValidWrong)

/-- 'laws.FnLeaseHasLess': WHATEVER THE INPUT: true; the input reads as it did. -/
def fnLeaseHasLessSpec : ChangeSpec := { name := "fnLeaseHasLess", fn := fun _ => fun
  | [d1, d2] => { results := [.lit (.bool true)], args := [d1, d2] }
  | _ => none }
def fnLeaseHasLessRow : OpenClaim := { program := "ythkgechljfjpdaa", sum := "76b2b9b5da40ecf4db2cff9677ca88076f583df7ac13d74f68262a1242733cc8", func := "loop.example/sagaflows/laws.FnLeaseHasLess", spec := "fnLeaseHasLess", unfollowed := true, recurses := true, apart := false }
def FnLeaseHasLessSaid : Prop := fnLeaseHasLessRow.holds Try.pinned (OpenSpec.ofChange fnLeaseHasLessSpec)

/-- ITS FALSE NEIGHBOUR: 'it returns false'. Refute it at one input. -/
def fnLeaseHasLessWrong : ChangeSpec := { name := "fnLeaseHasLess", fn := fun _ => fun
  | [d1, d2] => { results := [.lit (.bool false)], args := [d1, d2] }
  | _ => none }
def FnLeaseHasLessWrongFalsely : Prop := fnLeaseHasLessRow.holds Try.pinned (OpenSpec.ofChange fnLeaseHasLessWrong)

/-- 'laws.FnExactLeaseHas': WHATEVER THE INPUT: true; the input reads as it did. -/
def fnExactLeaseHasSpec : ChangeSpec := { name := "fnExactLeaseHas", fn := fun _ => fun
  | [d1, d2, d3] => { results := [.lit (.bool true)], args := [d1, d2, d3] }
  | _ => none }
def fnExactLeaseHasRow : OpenClaim := { program := "ythkgechljfjpdaa", sum := "76b2b9b5da40ecf4db2cff9677ca88076f583df7ac13d74f68262a1242733cc8", func := "loop.example/sagaflows/laws.FnExactLeaseHas", spec := "fnExactLeaseHas", unfollowed := true, recurses := true, apart := false }
def FnExactLeaseHasSaid : Prop := fnExactLeaseHasRow.holds Try.pinned (OpenSpec.ofChange fnExactLeaseHasSpec)

/-- ITS FALSE NEIGHBOUR: 'it returns false'. Refute it at one input. -/
def fnExactLeaseHasWrong : ChangeSpec := { name := "fnExactLeaseHas", fn := fun _ => fun
  | [d1, d2, d3] => { results := [.lit (.bool false)], args := [d1, d2, d3] }
  | _ => none }
def FnExactLeaseHasWrongFalsely : Prop := fnExactLeaseHasRow.holds Try.pinned (OpenSpec.ofChange fnExactLeaseHasWrong)

/-- 'laws.FnLeaseGive': WHATEVER THE INPUT: true; the input reads as it did. -/
def fnLeaseGiveSpec : ChangeSpec := { name := "fnLeaseGive", fn := fun _ => fun
  | [d1, d2] => { results := [.lit (.bool true)], args := [d1, d2] }
  | _ => none }
def fnLeaseGiveRow : OpenClaim := { program := "ythkgechljfjpdaa", sum := "76b2b9b5da40ecf4db2cff9677ca88076f583df7ac13d74f68262a1242733cc8", func := "loop.example/sagaflows/laws.FnLeaseGive", spec := "fnLeaseGive", unfollowed := true, recurses := true, apart := false }
def FnLeaseGiveSaid : Prop := fnLeaseGiveRow.holds Try.pinned (OpenSpec.ofChange fnLeaseGiveSpec)

/-- ITS FALSE NEIGHBOUR: 'it returns false'. Refute it at one input. -/
def fnLeaseGiveWrong : ChangeSpec := { name := "fnLeaseGive", fn := fun _ => fun
  | [d1, d2] => { results := [.lit (.bool false)], args := [d1, d2] }
  | _ => none }
def FnLeaseGiveWrongFalsely : Prop := fnLeaseGiveRow.holds Try.pinned (OpenSpec.ofChange fnLeaseGiveWrong)

/-- 'laws.FnExactLeaseGive': WHATEVER THE INPUT: true; the input reads as it did. -/
def fnExactLeaseGiveSpec : ChangeSpec := { name := "fnExactLeaseGive", fn := fun _ => fun
  | [d1, d2, d3] => { results := [.lit (.bool true)], args := [d1, d2, d3] }
  | _ => none }
def fnExactLeaseGiveRow : OpenClaim := { program := "ythkgechljfjpdaa", sum := "76b2b9b5da40ecf4db2cff9677ca88076f583df7ac13d74f68262a1242733cc8", func := "loop.example/sagaflows/laws.FnExactLeaseGive", spec := "fnExactLeaseGive", unfollowed := true, recurses := true, apart := false }
def FnExactLeaseGiveSaid : Prop := fnExactLeaseGiveRow.holds Try.pinned (OpenSpec.ofChange fnExactLeaseGiveSpec)

/-- ITS FALSE NEIGHBOUR: 'it returns false'. Refute it at one input. -/
def fnExactLeaseGiveWrong : ChangeSpec := { name := "fnExactLeaseGive", fn := fun _ => fun
  | [d1, d2, d3] => { results := [.lit (.bool false)], args := [d1, d2, d3] }
  | _ => none }
def FnExactLeaseGiveWrongFalsely : Prop := fnExactLeaseGiveRow.holds Try.pinned (OpenSpec.ofChange fnExactLeaseGiveWrong)

/-- 'laws.FnLeaseHas': WHATEVER THE INPUT: true; the input reads as it did. -/
def fnLeaseHasSpec : ChangeSpec := { name := "fnLeaseHas", fn := fun _ => fun
  | [d] => { results := [.lit (.bool true)], args := [d] }
  | _ => none }
def fnLeaseHasRow : OpenClaim := { program := "ythkgechljfjpdaa", sum := "76b2b9b5da40ecf4db2cff9677ca88076f583df7ac13d74f68262a1242733cc8", func := "loop.example/sagaflows/laws.FnLeaseHas", spec := "fnLeaseHas", inPlace := ["internal/bytealg.abigen_runtime_cmpstring"], unfollowed := true, recurses := true, apart := false }
def FnLeaseHasSaid : Prop := fnLeaseHasRow.holds Try.pinned (OpenSpec.ofChange fnLeaseHasSpec)

/-- ITS FALSE NEIGHBOUR: 'it returns false'. Refute it at one input. -/
def fnLeaseHasWrong : ChangeSpec := { name := "fnLeaseHas", fn := fun _ => fun
  | [d] => { results := [.lit (.bool false)], args := [d] }
  | _ => none }
def FnLeaseHasWrongFalsely : Prop := fnLeaseHasRow.holds Try.pinned (OpenSpec.ofChange fnLeaseHasWrong)

/-- 'laws.FnLeaseOne': WHATEVER THE INPUT: true; the input reads as it did. -/
def fnLeaseOneSpec : ChangeSpec := { name := "fnLeaseOne", fn := fun _ => fun
  | [d] => { results := [.lit (.bool true)], args := [d] }
  | _ => none }
def fnLeaseOneRow : OpenClaim := { program := "ythkgechljfjpdaa", sum := "76b2b9b5da40ecf4db2cff9677ca88076f583df7ac13d74f68262a1242733cc8", func := "loop.example/sagaflows/laws.FnLeaseOne", spec := "fnLeaseOne", inPlace := ["internal/bytealg.abigen_runtime_cmpstring"], unfollowed := true, recurses := true, apart := false }
def FnLeaseOneSaid : Prop := fnLeaseOneRow.holds Try.pinned (OpenSpec.ofChange fnLeaseOneSpec)

/-- ITS FALSE NEIGHBOUR: 'it returns false'. Refute it at one input. -/
def fnLeaseOneWrong : ChangeSpec := { name := "fnLeaseOne", fn := fun _ => fun
  | [d] => { results := [.lit (.bool false)], args := [d] }
  | _ => none }
def FnLeaseOneWrongFalsely : Prop := fnLeaseOneRow.holds Try.pinned (OpenSpec.ofChange fnLeaseOneWrong)

/-- 'laws.FnLeaseOthers': WHATEVER THE INPUT: true; the input reads as it did. -/
def fnLeaseOthersSpec : ChangeSpec := { name := "fnLeaseOthers", fn := fun _ => fun
  | [d] => { results := [.lit (.bool true)], args := [d] }
  | _ => none }
def fnLeaseOthersRow : OpenClaim := { program := "ythkgechljfjpdaa", sum := "76b2b9b5da40ecf4db2cff9677ca88076f583df7ac13d74f68262a1242733cc8", func := "loop.example/sagaflows/laws.FnLeaseOthers", spec := "fnLeaseOthers", inPlace := ["internal/bytealg.abigen_runtime_cmpstring"], unfollowed := true, recurses := true, apart := false }
def FnLeaseOthersSaid : Prop := fnLeaseOthersRow.holds Try.pinned (OpenSpec.ofChange fnLeaseOthersSpec)

/-- ITS FALSE NEIGHBOUR: 'it returns false'. Refute it at one input. -/
def fnLeaseOthersWrong : ChangeSpec := { name := "fnLeaseOthers", fn := fun _ => fun
  | [d] => { results := [.lit (.bool false)], args := [d] }
  | _ => none }
def FnLeaseOthersWrongFalsely : Prop := fnLeaseOthersRow.holds Try.pinned (OpenSpec.ofChange fnLeaseOthersWrong)

/-- 'laws.FnLeaseTwice': WHATEVER THE INPUT: true; the input reads as it did. -/
def fnLeaseTwiceSpec : ChangeSpec := { name := "fnLeaseTwice", fn := fun _ => fun
  | [d1, d2] => { results := [.lit (.bool true)], args := [d1, d2] }
  | _ => none }
def fnLeaseTwiceRow : OpenClaim := { program := "ythkgechljfjpdaa", sum := "76b2b9b5da40ecf4db2cff9677ca88076f583df7ac13d74f68262a1242733cc8", func := "loop.example/sagaflows/laws.FnLeaseTwice", spec := "fnLeaseTwice", inPlace := ["internal/bytealg.abigen_runtime_cmpstring"], unfollowed := true, recurses := true, apart := false }
def FnLeaseTwiceSaid : Prop := fnLeaseTwiceRow.holds Try.pinned (OpenSpec.ofChange fnLeaseTwiceSpec)

/-- ITS FALSE NEIGHBOUR: 'it returns false'. Refute it at one input. -/
def fnLeaseTwiceWrong : ChangeSpec := { name := "fnLeaseTwice", fn := fun _ => fun
  | [d1, d2] => { results := [.lit (.bool false)], args := [d1, d2] }
  | _ => none }
def FnLeaseTwiceWrongFalsely : Prop := fnLeaseTwiceRow.holds Try.pinned (OpenSpec.ofChange fnLeaseTwiceWrong)

/-- 'laws.FnLeaseTake': WHATEVER THE INPUT: true; the input reads as it did. -/
def fnLeaseTakeSpec : ChangeSpec := { name := "fnLeaseTake", fn := fun _ => fun
  | [d1, d2] => { results := [.lit (.bool true)], args := [d1, d2] }
  | _ => none }
def fnLeaseTakeRow : OpenClaim := { program := "ythkgechljfjpdaa", sum := "76b2b9b5da40ecf4db2cff9677ca88076f583df7ac13d74f68262a1242733cc8", func := "loop.example/sagaflows/laws.FnLeaseTake", spec := "fnLeaseTake", inPlace := ["internal/bytealg.abigen_runtime_cmpstring"], unfollowed := true, recurses := true, apart := false }
def FnLeaseTakeSaid : Prop := fnLeaseTakeRow.holds Try.pinned (OpenSpec.ofChange fnLeaseTakeSpec)

/-- ITS FALSE NEIGHBOUR: 'it returns false'. Refute it at one input. -/
def fnLeaseTakeWrong : ChangeSpec := { name := "fnLeaseTake", fn := fun _ => fun
  | [d1, d2] => { results := [.lit (.bool false)], args := [d1, d2] }
  | _ => none }
def FnLeaseTakeWrongFalsely : Prop := fnLeaseTakeRow.holds Try.pinned (OpenSpec.ofChange fnLeaseTakeWrong)

/- THE SECOND FORM. 'bulk': how many values and letters a reading holds, each counted each time it is reached (what is shared counts as often as it is met; a slice's spare places count too). A statement '..UptoSaid' is the law's where the arguments, and the package variables that the reading takes, are together of bulk at most 1048576: NARROWER than '..Said'. Prove '..Said' where nothing that the law and all that it calls make is longer than what came in: it says more and counts as full. Else prove '..UptoSaid'. A law counts once. -/
mutual
def uptoBulk {H : Type} : DataW H → Nat
  | .lit (.string bytes) => bytes.length + 1
  | .lit _ => 1
  | .nil => 1
  | .ptr d => uptoBulk d + 1
  | .slice elems spare => uptoBulkAll elems + uptoBulkAll spare + 1
  | .agg parts => uptoBulkAll parts + 1
  | .iface _ d => uptoBulk d + 1
  | .map entries => uptoBulkEntries entries + 1
  | .held _ => 1
def uptoBulkAll {H : Type} : List (DataW H) → Nat
  | [] => 0
  | d :: r => uptoBulk d + uptoBulkAll r
def uptoBulkEntries {H : Type} : List (Lit × DataW H) → Nat
  | [] => 0
  | x :: r => uptoBulkEntry x + uptoBulkEntries r
def uptoBulkEntry {H : Type} : Lit × DataW H → Nat
  | (.string bytes, d) => bytes.length + uptoBulk d + 1
  | (_, d) => uptoBulk d + 1
 end
def uptoSmall : (H : Type) → List (DataW H) → Bool := fun _ ds => decide (uptoBulkAll ds ≤ 1048576)
def OpenSpec.upto (s : _root_.Go.ChangeSpec) : _root_.Go.OpenSpec := { _root_.Go.OpenSpec.ofChange s with cond := some uptoSmall }

/-- 'laws.FnLeasesPart', WHERE WHAT IT READS IS OF BULK AT MOST 1048576: true; the input reads as it did. -/
def fnLeasesPartUptoRow : OpenClaim := { program := "ythkgechljfjpdaa", sum := "76b2b9b5da40ecf4db2cff9677ca88076f583df7ac13d74f68262a1242733cc8", func := "loop.example/sagaflows/laws.FnLeasesPart", spec := "fnLeasesPart", apart := false, narrowed := true }
def FnLeasesPartUptoSaid : Prop := fnLeasesPartUptoRow.holds Try.pinned (OpenSpec.upto fnLeasesPartSpec)

/-- 'laws.FnExactLeaseTake', WHERE WHAT IT READS IS OF BULK AT MOST 1048576: true; the input reads as it did. -/
def fnExactLeaseTakeUptoRow : OpenClaim := { program := "ythkgechljfjpdaa", sum := "76b2b9b5da40ecf4db2cff9677ca88076f583df7ac13d74f68262a1242733cc8", func := "loop.example/sagaflows/laws.FnExactLeaseTake", spec := "fnExactLeaseTake", inPlace := ["internal/bytealg.abigen_runtime_cmpstring"], unfollowed := true, recurses := true, apart := false, narrowed := true }
def FnExactLeaseTakeUptoSaid : Prop := fnExactLeaseTakeUptoRow.holds Try.pinned (OpenSpec.upto fnExactLeaseTakeSpec)

/-- 'laws.FnExactLeasesValid', WHERE WHAT IT READS IS OF BULK AT MOST 1048576: true; the input reads as it did. -/
def fnExactLeasesValidUptoRow : OpenClaim := { program := "ythkgechljfjpdaa", sum := "76b2b9b5da40ecf4db2cff9677ca88076f583df7ac13d74f68262a1242733cc8", func := "loop.example/sagaflows/laws.FnExactLeasesValid", spec := "fnExactLeasesValid", apart := false, narrowed := true }
def FnExactLeasesValidUptoSaid : Prop := fnExactLeasesValidUptoRow.holds Try.pinned (OpenSpec.upto fnExactLeasesValidSpec)

/-- 'laws.FnLeaseHasLess', WHERE WHAT IT READS IS OF BULK AT MOST 1048576: true; the input reads as it did. -/
def fnLeaseHasLessUptoRow : OpenClaim := { program := "ythkgechljfjpdaa", sum := "76b2b9b5da40ecf4db2cff9677ca88076f583df7ac13d74f68262a1242733cc8", func := "loop.example/sagaflows/laws.FnLeaseHasLess", spec := "fnLeaseHasLess", unfollowed := true, recurses := true, apart := false, narrowed := true }
def FnLeaseHasLessUptoSaid : Prop := fnLeaseHasLessUptoRow.holds Try.pinned (OpenSpec.upto fnLeaseHasLessSpec)

/-- 'laws.FnExactLeaseHas', WHERE WHAT IT READS IS OF BULK AT MOST 1048576: true; the input reads as it did. -/
def fnExactLeaseHasUptoRow : OpenClaim := { program := "ythkgechljfjpdaa", sum := "76b2b9b5da40ecf4db2cff9677ca88076f583df7ac13d74f68262a1242733cc8", func := "loop.example/sagaflows/laws.FnExactLeaseHas", spec := "fnExactLeaseHas", unfollowed := true, recurses := true, apart := false, narrowed := true }
def FnExactLeaseHasUptoSaid : Prop := fnExactLeaseHasUptoRow.holds Try.pinned (OpenSpec.upto fnExactLeaseHasSpec)

/-- 'laws.FnLeaseGive', WHERE WHAT IT READS IS OF BULK AT MOST 1048576: true; the input reads as it did. -/
def fnLeaseGiveUptoRow : OpenClaim := { program := "ythkgechljfjpdaa", sum := "76b2b9b5da40ecf4db2cff9677ca88076f583df7ac13d74f68262a1242733cc8", func := "loop.example/sagaflows/laws.FnLeaseGive", spec := "fnLeaseGive", unfollowed := true, recurses := true, apart := false, narrowed := true }
def FnLeaseGiveUptoSaid : Prop := fnLeaseGiveUptoRow.holds Try.pinned (OpenSpec.upto fnLeaseGiveSpec)

/-- 'laws.FnExactLeaseGive', WHERE WHAT IT READS IS OF BULK AT MOST 1048576: true; the input reads as it did. -/
def fnExactLeaseGiveUptoRow : OpenClaim := { program := "ythkgechljfjpdaa", sum := "76b2b9b5da40ecf4db2cff9677ca88076f583df7ac13d74f68262a1242733cc8", func := "loop.example/sagaflows/laws.FnExactLeaseGive", spec := "fnExactLeaseGive", unfollowed := true, recurses := true, apart := false, narrowed := true }
def FnExactLeaseGiveUptoSaid : Prop := fnExactLeaseGiveUptoRow.holds Try.pinned (OpenSpec.upto fnExactLeaseGiveSpec)

/-- 'laws.FnLeaseHas', WHERE WHAT IT READS IS OF BULK AT MOST 1048576: true; the input reads as it did. -/
def fnLeaseHasUptoRow : OpenClaim := { program := "ythkgechljfjpdaa", sum := "76b2b9b5da40ecf4db2cff9677ca88076f583df7ac13d74f68262a1242733cc8", func := "loop.example/sagaflows/laws.FnLeaseHas", spec := "fnLeaseHas", inPlace := ["internal/bytealg.abigen_runtime_cmpstring"], unfollowed := true, recurses := true, apart := false, narrowed := true }
def FnLeaseHasUptoSaid : Prop := fnLeaseHasUptoRow.holds Try.pinned (OpenSpec.upto fnLeaseHasSpec)

/-- 'laws.FnLeaseOne', WHERE WHAT IT READS IS OF BULK AT MOST 1048576: true; the input reads as it did. -/
def fnLeaseOneUptoRow : OpenClaim := { program := "ythkgechljfjpdaa", sum := "76b2b9b5da40ecf4db2cff9677ca88076f583df7ac13d74f68262a1242733cc8", func := "loop.example/sagaflows/laws.FnLeaseOne", spec := "fnLeaseOne", inPlace := ["internal/bytealg.abigen_runtime_cmpstring"], unfollowed := true, recurses := true, apart := false, narrowed := true }
def FnLeaseOneUptoSaid : Prop := fnLeaseOneUptoRow.holds Try.pinned (OpenSpec.upto fnLeaseOneSpec)

/-- 'laws.FnLeaseOthers', WHERE WHAT IT READS IS OF BULK AT MOST 1048576: true; the input reads as it did. -/
def fnLeaseOthersUptoRow : OpenClaim := { program := "ythkgechljfjpdaa", sum := "76b2b9b5da40ecf4db2cff9677ca88076f583df7ac13d74f68262a1242733cc8", func := "loop.example/sagaflows/laws.FnLeaseOthers", spec := "fnLeaseOthers", inPlace := ["internal/bytealg.abigen_runtime_cmpstring"], unfollowed := true, recurses := true, apart := false, narrowed := true }
def FnLeaseOthersUptoSaid : Prop := fnLeaseOthersUptoRow.holds Try.pinned (OpenSpec.upto fnLeaseOthersSpec)

/-- 'laws.FnLeaseTwice', WHERE WHAT IT READS IS OF BULK AT MOST 1048576: true; the input reads as it did. -/
def fnLeaseTwiceUptoRow : OpenClaim := { program := "ythkgechljfjpdaa", sum := "76b2b9b5da40ecf4db2cff9677ca88076f583df7ac13d74f68262a1242733cc8", func := "loop.example/sagaflows/laws.FnLeaseTwice", spec := "fnLeaseTwice", inPlace := ["internal/bytealg.abigen_runtime_cmpstring"], unfollowed := true, recurses := true, apart := false, narrowed := true }
def FnLeaseTwiceUptoSaid : Prop := fnLeaseTwiceUptoRow.holds Try.pinned (OpenSpec.upto fnLeaseTwiceSpec)

/-- 'laws.FnLeaseTake', WHERE WHAT IT READS IS OF BULK AT MOST 1048576: true; the input reads as it did. -/
def fnLeaseTakeUptoRow : OpenClaim := { program := "ythkgechljfjpdaa", sum := "76b2b9b5da40ecf4db2cff9677ca88076f583df7ac13d74f68262a1242733cc8", func := "loop.example/sagaflows/laws.FnLeaseTake", spec := "fnLeaseTake", inPlace := ["internal/bytealg.abigen_runtime_cmpstring"], unfollowed := true, recurses := true, apart := false, narrowed := true }
def FnLeaseTakeUptoSaid : Prop := fnLeaseTakeUptoRow.holds Try.pinned (OpenSpec.upto fnLeaseTakeSpec)

end Rows
end Go.Proofs.Ythkgechljfjpdaa
