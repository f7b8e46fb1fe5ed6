/-
  No cell of these rows narrows 'for every input' (looked for: loops, veiled, ifaces, maps, wideKeys, modest, calm, conditions, laid).
  DERIVED. THE GIVEN ROWS OF THIS SEAT. 9 by the template 'for every input the law returns true; each argument reads behind the call as it read before'; 0 by the template 'total and deterministic' (their statements: YtpkakpldhlldeaaTotals.lean).
  GIVEN WITH THE SEED: the statements are not yours to turn. If you find one false, say at which input.
  Laid BY PROGRAM, IN A SANDBOX (cutbox-rows.mjs): the forced cells as the released guide's own fill.sh prints them over the translation bce5f80a8b699003… (all of the seat's roots in one cut). By AI agents, Wed Nov 11 2026. No macro, syntax, notation, axiom, sorry.
-/
import Derived.Test.YtpkakpldhlldeaaChecked
import GoSem.Claim
import GoSem.ClaimJoined
import GoSem.ClaimMapViews
import Derived.JoinedTies
import Derived.KernelRfl
namespace Go.Proofs.Ytpkakpldhlldeaa
/- THE CELL 'sum', in the pinned program and in every row, IS THE sha256 OF THE DUMP (.gsa) THAT YtpkakpldhlldeaaProg.lean LOADS. Nothing in Lean hashes anything: it is a label: what it is worth is what the hold of that sum in a sandbox is worth. -/
noncomputable def Try.pinned : Pinned := { name := "ytpkakpldhlldeaa", sum := "bce5f80a8b69900325966ecd64809c2e85f44d0564437bf12074ba09ca9ecbd6", checked := Try.checked }
namespace Rows
def none {H : Type} : Left H := { results := [], args := [] }

/-- 'laws.FnTimerPutTwice': WHATEVER THE INPUT: true; the input reads as it did. -/
def fnTimerPutTwiceSpec : ChangeSpec := { name := "fnTimerPutTwice", fn := fun _ => fun
  | [d] => { results := [.lit (.bool true)], args := [d] }
  | _ => none }
def fnTimerPutTwiceRow : OpenClaim := { program := "ytpkakpldhlldeaa", sum := "bce5f80a8b69900325966ecd64809c2e85f44d0564437bf12074ba09ca9ecbd6", func := "loop.example/sagaflows/laws.FnTimerPutTwice", spec := "fnTimerPutTwice", unfollowed := true, recurses := true, apart := false }
def FnTimerPutTwiceSaid : Prop := fnTimerPutTwiceRow.holds Try.pinned (OpenSpec.ofChange fnTimerPutTwiceSpec)

/-- ITS FALSE NEIGHBOUR: 'it returns false'. Refute it at one input. -/
def fnTimerPutTwiceWrong : ChangeSpec := { name := "fnTimerPutTwice", fn := fun _ => fun
  | [d] => { results := [.lit (.bool false)], args := [d] }
  | _ => none }
def FnTimerPutTwiceWrongFalsely : Prop := fnTimerPutTwiceRow.holds Try.pinned (OpenSpec.ofChange fnTimerPutTwiceWrong)

/-- 'laws.FnExactTimerPut': WHATEVER THE INPUT: true; the input reads as it did. -/
def fnExactTimerPutSpec : ChangeSpec := { name := "fnExactTimerPut", fn := fun _ => fun
  | [d1, d2] => { results := [.lit (.bool true)], args := [d1, d2] }
  | _ => none }
def fnExactTimerPutRow : OpenClaim := { program := "ytpkakpldhlldeaa", sum := "bce5f80a8b69900325966ecd64809c2e85f44d0564437bf12074ba09ca9ecbd6", func := "loop.example/sagaflows/laws.FnExactTimerPut", spec := "fnExactTimerPut", unfollowed := true, recurses := true, apart := false }
def FnExactTimerPutSaid : Prop := fnExactTimerPutRow.holds Try.pinned (OpenSpec.ofChange fnExactTimerPutSpec)

/-- ITS FALSE NEIGHBOUR: 'it returns false'. Refute it at one input. -/
def fnExactTimerPutWrong : ChangeSpec := { name := "fnExactTimerPut", fn := fun _ => fun
  | [d1, d2] => { results := [.lit (.bool false)], args := [d1, d2] }
  | _ => none }
def FnExactTimerPutWrongFalsely : Prop := fnExactTimerPutRow.holds Try.pinned (OpenSpec.ofChange fnExactTimerPutWrong)

/-- 'laws.FnDueAll': WHATEVER THE INPUT: true; the input reads as it did. -/
def fnDueAllSpec : ChangeSpec := { name := "fnDueAll", fn := fun _ => fun
  | [d] => { results := [.lit (.bool true)], args := [d] }
  | _ => none }
def fnDueAllRow : OpenClaim := { program := "ytpkakpldhlldeaa", sum := "bce5f80a8b69900325966ecd64809c2e85f44d0564437bf12074ba09ca9ecbd6", func := "loop.example/sagaflows/laws.FnDueAll", spec := "fnDueAll", apart := false }
def FnDueAllSaid : Prop := fnDueAllRow.holds Try.pinned (OpenSpec.ofChange fnDueAllSpec)

/-- ITS FALSE NEIGHBOUR: 'it returns false'. Refute it at one input. -/
def fnDueAllWrong : ChangeSpec := { name := "fnDueAll", fn := fun _ => fun
  | [d] => { results := [.lit (.bool false)], args := [d] }
  | _ => none }
def FnDueAllWrongFalsely : Prop := fnDueAllRow.holds Try.pinned (OpenSpec.ofChange fnDueAllWrong)

/-- 'laws.FnDueLater': WHATEVER THE INPUT: true; the input reads as it did. -/
def fnDueLaterSpec : ChangeSpec := { name := "fnDueLater", fn := fun _ => fun
  | [d] => { results := [.lit (.bool true)], args := [d] }
  | _ => none }
def fnDueLaterRow : OpenClaim := { program := "ytpkakpldhlldeaa", sum := "bce5f80a8b69900325966ecd64809c2e85f44d0564437bf12074ba09ca9ecbd6", func := "loop.example/sagaflows/laws.FnDueLater", spec := "fnDueLater", apart := false }
def FnDueLaterSaid : Prop := fnDueLaterRow.holds Try.pinned (OpenSpec.ofChange fnDueLaterSpec)

/-- ITS FALSE NEIGHBOUR: 'it returns false'. Refute it at one input. -/
def fnDueLaterWrong : ChangeSpec := { name := "fnDueLater", fn := fun _ => fun
  | [d] => { results := [.lit (.bool false)], args := [d] }
  | _ => none }
def FnDueLaterWrongFalsely : Prop := fnDueLaterRow.holds Try.pinned (OpenSpec.ofChange fnDueLaterWrong)

/-- 'laws.FnDueTwice': WHATEVER THE INPUT: true; the input reads as it did. -/
def fnDueTwiceSpec : ChangeSpec := { name := "fnDueTwice", fn := fun _ => fun
  | [d] => { results := [.lit (.bool true)], args := [d] }
  | _ => none }
def fnDueTwiceRow : OpenClaim := { program := "ytpkakpldhlldeaa", sum := "bce5f80a8b69900325966ecd64809c2e85f44d0564437bf12074ba09ca9ecbd6", func := "loop.example/sagaflows/laws.FnDueTwice", spec := "fnDueTwice", apart := false }
def FnDueTwiceSaid : Prop := fnDueTwiceRow.holds Try.pinned (OpenSpec.ofChange fnDueTwiceSpec)

/-- ITS FALSE NEIGHBOUR: 'it returns false'. Refute it at one input. -/
def fnDueTwiceWrong : ChangeSpec := { name := "fnDueTwice", fn := fun _ => fun
  | [d] => { results := [.lit (.bool false)], args := [d] }
  | _ => none }
def FnDueTwiceWrongFalsely : Prop := fnDueTwiceRow.holds Try.pinned (OpenSpec.ofChange fnDueTwiceWrong)

/-- 'laws.FnTimerDrop': WHATEVER THE INPUT: true; the input reads as it did. -/
def fnTimerDropSpec : ChangeSpec := { name := "fnTimerDrop", fn := fun _ => fun
  | [d] => { results := [.lit (.bool true)], args := [d] }
  | _ => none }
def fnTimerDropRow : OpenClaim := { program := "ytpkakpldhlldeaa", sum := "bce5f80a8b69900325966ecd64809c2e85f44d0564437bf12074ba09ca9ecbd6", func := "loop.example/sagaflows/laws.FnTimerDrop", spec := "fnTimerDrop", unfollowed := true, recurses := true, apart := false }
def FnTimerDropSaid : Prop := fnTimerDropRow.holds Try.pinned (OpenSpec.ofChange fnTimerDropSpec)

/-- ITS FALSE NEIGHBOUR: 'it returns false'. Refute it at one input. -/
def fnTimerDropWrong : ChangeSpec := { name := "fnTimerDrop", fn := fun _ => fun
  | [d] => { results := [.lit (.bool false)], args := [d] }
  | _ => none }
def FnTimerDropWrongFalsely : Prop := fnTimerDropRow.holds Try.pinned (OpenSpec.ofChange fnTimerDropWrong)

/-- 'laws.FnExactTimerDrop': WHATEVER THE INPUT: true; the input reads as it did. -/
def fnExactTimerDropSpec : ChangeSpec := { name := "fnExactTimerDrop", fn := fun _ => fun
  | [d1, d2] => { results := [.lit (.bool true)], args := [d1, d2] }
  | _ => none }
def fnExactTimerDropRow : OpenClaim := { program := "ytpkakpldhlldeaa", sum := "bce5f80a8b69900325966ecd64809c2e85f44d0564437bf12074ba09ca9ecbd6", func := "loop.example/sagaflows/laws.FnExactTimerDrop", spec := "fnExactTimerDrop", unfollowed := true, recurses := true, apart := false }
def FnExactTimerDropSaid : Prop := fnExactTimerDropRow.holds Try.pinned (OpenSpec.ofChange fnExactTimerDropSpec)

/-- ITS FALSE NEIGHBOUR: 'it returns false'. Refute it at one input. -/
def fnExactTimerDropWrong : ChangeSpec := { name := "fnExactTimerDrop", fn := fun _ => fun
  | [d1, d2] => { results := [.lit (.bool false)], args := [d1, d2] }
  | _ => none }
def FnExactTimerDropWrongFalsely : Prop := fnExactTimerDropRow.holds Try.pinned (OpenSpec.ofChange fnExactTimerDropWrong)

/-- 'laws.FnExactTimersDue': WHATEVER THE INPUT: true; the input reads as it did. -/
def fnExactTimersDueSpec : ChangeSpec := { name := "fnExactTimersDue", fn := fun _ => fun
  | [d1, d2] => { results := [.lit (.bool true)], args := [d1, d2] }
  | _ => none }
def fnExactTimersDueRow : OpenClaim := { program := "ytpkakpldhlldeaa", sum := "bce5f80a8b69900325966ecd64809c2e85f44d0564437bf12074ba09ca9ecbd6", func := "loop.example/sagaflows/laws.FnExactTimersDue", spec := "fnExactTimersDue", apart := false }
def FnExactTimersDueSaid : Prop := fnExactTimersDueRow.holds Try.pinned (OpenSpec.ofChange fnExactTimersDueSpec)

/-- ITS FALSE NEIGHBOUR: 'it returns false'. Refute it at one input. -/
def fnExactTimersDueWrong : ChangeSpec := { name := "fnExactTimersDue", fn := fun _ => fun
  | [d1, d2] => { results := [.lit (.bool false)], args := [d1, d2] }
  | _ => none }
def FnExactTimersDueWrongFalsely : Prop := fnExactTimersDueRow.holds Try.pinned (OpenSpec.ofChange fnExactTimersDueWrong)

/-- 'laws.FnTimerPut': WHATEVER THE INPUT: true; the input reads as it did. -/
def fnTimerPutSpec : ChangeSpec := { name := "fnTimerPut", fn := fun _ => fun
  | [d] => { results := [.lit (.bool true)], args := [d] }
  | _ => none }
def fnTimerPutRow : OpenClaim := { program := "ytpkakpldhlldeaa", sum := "bce5f80a8b69900325966ecd64809c2e85f44d0564437bf12074ba09ca9ecbd6", func := "loop.example/sagaflows/laws.FnTimerPut", spec := "fnTimerPut", unfollowed := true, recurses := true, apart := false }
def FnTimerPutSaid : Prop := fnTimerPutRow.holds Try.pinned (OpenSpec.ofChange fnTimerPutSpec)

/-- ITS FALSE NEIGHBOUR: 'it returns false'. Refute it at one input. -/
def fnTimerPutWrong : ChangeSpec := { name := "fnTimerPut", fn := fun _ => fun
  | [d] => { results := [.lit (.bool false)], args := [d] }
  | _ => none }
def FnTimerPutWrongFalsely : Prop := fnTimerPutRow.holds Try.pinned (OpenSpec.ofChange fnTimerPutWrong)

/- THE SECOND FORM. 'bulk': how many values and letters a reading holds, each counted each time it is reached (what is shared counts as often as it is met; a slice's spare places count too). A statement '..UptoSaid' is the law's where the arguments, and the package variables that the reading takes, are together of bulk at most 1048576: NARROWER than '..Said'. Prove '..Said' where nothing that the law and all that it calls make is longer than what came in: it says more and counts as full. Else prove '..UptoSaid'. A law counts once. -/
mutual
def uptoBulk {H : Type} : DataW H → Nat
  | .lit (.string bytes) => bytes.length + 1
  | .lit _ => 1
  | .nil => 1
  | .ptr d => uptoBulk d + 1
  | .slice elems spare => uptoBulkAll elems + uptoBulkAll spare + 1
  | .agg parts => uptoBulkAll parts + 1
  | .iface _ d => uptoBulk d + 1
  | .map entries => uptoBulkEntries entries + 1
  | .held _ => 1
def uptoBulkAll {H : Type} : List (DataW H) → Nat
  | [] => 0
  | d :: r => uptoBulk d + uptoBulkAll r
def uptoBulkEntries {H : Type} : List (Lit × DataW H) → Nat
  | [] => 0
  | x :: r => uptoBulkEntry x + uptoBulkEntries r
def uptoBulkEntry {H : Type} : Lit × DataW H → Nat
  | (.string bytes, d) => bytes.length + uptoBulk d + 1
  | (_, d) => uptoBulk d + 1
 end
def uptoSmall : (H : Type) → List (DataW H) → Bool := fun _ ds => decide (uptoBulkAll ds ≤ 1048576)
def OpenSpec.upto (s : _root_.Go.ChangeSpec) : _root_.Go.OpenSpec := { _root_.Go.OpenSpec.ofChange s with cond := some uptoSmall }

/-- 'laws.FnTimerPutTwice', WHERE WHAT IT READS IS OF BULK AT MOST 1048576: true; the input reads as it did. -/
def fnTimerPutTwiceUptoRow : OpenClaim := { program := "ytpkakpldhlldeaa", sum := "bce5f80a8b69900325966ecd64809c2e85f44d0564437bf12074ba09ca9ecbd6", func := "loop.example/sagaflows/laws.FnTimerPutTwice", spec := "fnTimerPutTwice", unfollowed := true, recurses := true, apart := false, narrowed := true }
def FnTimerPutTwiceUptoSaid : Prop := fnTimerPutTwiceUptoRow.holds Try.pinned (OpenSpec.upto fnTimerPutTwiceSpec)

/-- 'laws.FnExactTimerPut', WHERE WHAT IT READS IS OF BULK AT MOST 1048576: true; the input reads as it did. -/
def fnExactTimerPutUptoRow : OpenClaim := { program := "ytpkakpldhlldeaa", sum := "bce5f80a8b69900325966ecd64809c2e85f44d0564437bf12074ba09ca9ecbd6", func := "loop.example/sagaflows/laws.FnExactTimerPut", spec := "fnExactTimerPut", unfollowed := true, recurses := true, apart := false, narrowed := true }
def FnExactTimerPutUptoSaid : Prop := fnExactTimerPutUptoRow.holds Try.pinned (OpenSpec.upto fnExactTimerPutSpec)

/-- 'laws.FnDueAll', WHERE WHAT IT READS IS OF BULK AT MOST 1048576: true; the input reads as it did. -/
def fnDueAllUptoRow : OpenClaim := { program := "ytpkakpldhlldeaa", sum := "bce5f80a8b69900325966ecd64809c2e85f44d0564437bf12074ba09ca9ecbd6", func := "loop.example/sagaflows/laws.FnDueAll", spec := "fnDueAll", apart := false, narrowed := true }
def FnDueAllUptoSaid : Prop := fnDueAllUptoRow.holds Try.pinned (OpenSpec.upto fnDueAllSpec)

/-- 'laws.FnDueLater', WHERE WHAT IT READS IS OF BULK AT MOST 1048576: true; the input reads as it did. -/
def fnDueLaterUptoRow : OpenClaim := { program := "ytpkakpldhlldeaa", sum := "bce5f80a8b69900325966ecd64809c2e85f44d0564437bf12074ba09ca9ecbd6", func := "loop.example/sagaflows/laws.FnDueLater", spec := "fnDueLater", apart := false, narrowed := true }
def FnDueLaterUptoSaid : Prop := fnDueLaterUptoRow.holds Try.pinned (OpenSpec.upto fnDueLaterSpec)

/-- 'laws.FnDueTwice', WHERE WHAT IT READS IS OF BULK AT MOST 1048576: true; the input reads as it did. -/
def fnDueTwiceUptoRow : OpenClaim := { program := "ytpkakpldhlldeaa", sum := "bce5f80a8b69900325966ecd64809c2e85f44d0564437bf12074ba09ca9ecbd6", func := "loop.example/sagaflows/laws.FnDueTwice", spec := "fnDueTwice", apart := false, narrowed := true }
def FnDueTwiceUptoSaid : Prop := fnDueTwiceUptoRow.holds Try.pinned (OpenSpec.upto fnDueTwiceSpec)

/-- 'laws.FnTimerDrop', WHERE WHAT IT READS IS OF BULK AT MOST 1048576: true; the input reads as it did. -/
def fnTimerDropUptoRow : OpenClaim := { program := "ytpkakpldhlldeaa", sum := "bce5f80a8b69900325966ecd64809c2e85f44d0564437bf12074ba09ca9ecbd6", func := "loop.example/sagaflows/laws.FnTimerDrop", spec := "fnTimerDrop", unfollowed := true, recurses := true, apart := false, narrowed := true }
def FnTimerDropUptoSaid : Prop := fnTimerDropUptoRow.holds Try.pinned (OpenSpec.upto fnTimerDropSpec)

/-- 'laws.FnExactTimerDrop', WHERE WHAT IT READS IS OF BULK AT MOST 1048576: true; the input reads as it did. -/
def fnExactTimerDropUptoRow : OpenClaim := { program := "ytpkakpldhlldeaa", sum := "bce5f80a8b69900325966ecd64809c2e85f44d0564437bf12074ba09ca9ecbd6", func := "loop.example/sagaflows/laws.FnExactTimerDrop", spec := "fnExactTimerDrop", unfollowed := true, recurses := true, apart := false, narrowed := true }
def FnExactTimerDropUptoSaid : Prop := fnExactTimerDropUptoRow.holds Try.pinned (OpenSpec.upto fnExactTimerDropSpec)

/-- 'laws.FnExactTimersDue', WHERE WHAT IT READS IS OF BULK AT MOST 1048576: true; the input reads as it did. -/
def fnExactTimersDueUptoRow : OpenClaim := { program := "ytpkakpldhlldeaa", sum := "bce5f80a8b69900325966ecd64809c2e85f44d0564437bf12074ba09ca9ecbd6", func := "loop.example/sagaflows/laws.FnExactTimersDue", spec := "fnExactTimersDue", apart := false, narrowed := true }
def FnExactTimersDueUptoSaid : Prop := fnExactTimersDueUptoRow.holds Try.pinned (OpenSpec.upto fnExactTimersDueSpec)

/-- 'laws.FnTimerPut', WHERE WHAT IT READS IS OF BULK AT MOST 1048576: true; the input reads as it did. -/
def fnTimerPutUptoRow : OpenClaim := { program := "ytpkakpldhlldeaa", sum := "bce5f80a8b69900325966ecd64809c2e85f44d0564437bf12074ba09ca9ecbd6", func := "loop.example/sagaflows/laws.FnTimerPut", spec := "fnTimerPut", unfollowed := true, recurses := true, apart := false, narrowed := true }
def FnTimerPutUptoSaid : Prop := fnTimerPutUptoRow.holds Try.pinned (OpenSpec.upto fnTimerPutSpec)

end Rows
end Go.Proofs.Ytpkakpldhlldeaa
