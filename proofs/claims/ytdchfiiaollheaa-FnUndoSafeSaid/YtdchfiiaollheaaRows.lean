/-
  No cell of these rows narrows 'for every input' (looked for: loops, veiled, ifaces, maps, wideKeys, modest, calm, conditions, laid).
  DERIVED. THE GIVEN ROWS OF THIS SEAT. 12 by the template 'for every input the law returns true; each argument reads behind the call as it read before'; 0 by the template 'total and deterministic' (their statements: YtdchfiiaollheaaTotals.lean).
  GIVEN WITH THE SEED: the statements are not yours to turn. If you find one false, say at which input.
  Laid BY PROGRAM, IN A SANDBOX (cutbox-rows.mjs): the forced cells as the released guide's own fill.sh prints them over the translation fa1c8521ec9d84da… (all of the seat's roots in one cut). By AI agents, Wed Nov 11 2026. No macro, syntax, notation, axiom, sorry.
-/
import Derived.Test.YtdchfiiaollheaaChecked
import GoSem.Claim
import GoSem.ClaimJoined
import GoSem.ClaimMapViews
import Derived.JoinedTies
import Derived.KernelRfl
namespace Go.Proofs.Ytdchfiiaollheaa
/- THE CELL 'sum', in the pinned program and in every row, IS THE sha256 OF THE DUMP (.gsa) THAT YtdchfiiaollheaaProg.lean LOADS. Nothing in Lean hashes anything: it is a label: what it is worth is what the hold of that sum in a sandbox is worth. -/
noncomputable def Try.pinned : Pinned := { name := "ytdchfiiaollheaa", sum := "fa1c8521ec9d84da96ee6f557b813398306185e1e688f6c21d91319ff9167a8e", checked := Try.checked }
namespace Rows
def none {H : Type} : Left H := { results := [], args := [] }

/-- 'laws.FnUndoSafeAll': WHATEVER THE INPUT: true; the input reads as it did. -/
def fnUndoSafeAllSpec : ChangeSpec := { name := "fnUndoSafeAll", fn := fun _ => fun
  | [d] => { results := [.lit (.bool true)], args := [d] }
  | _ => none }
def fnUndoSafeAllRow : OpenClaim := { program := "ytdchfiiaollheaa", sum := "fa1c8521ec9d84da96ee6f557b813398306185e1e688f6c21d91319ff9167a8e", func := "loop.example/sagaflows/laws.FnUndoSafeAll", spec := "fnUndoSafeAll", unfollowed := true, recurses := true, apart := false }
def FnUndoSafeAllSaid : Prop := fnUndoSafeAllRow.holds Try.pinned (OpenSpec.ofChange fnUndoSafeAllSpec)

/-- ITS FALSE NEIGHBOUR: 'it returns false'. Refute it at one input. -/
def fnUndoSafeAllWrong : ChangeSpec := { name := "fnUndoSafeAll", fn := fun _ => fun
  | [d] => { results := [.lit (.bool false)], args := [d] }
  | _ => none }
def FnUndoSafeAllWrongFalsely : Prop := fnUndoSafeAllRow.holds Try.pinned (OpenSpec.ofChange fnUndoSafeAllWrong)

/-- 'laws.FnExactUndoSafe': WHATEVER THE INPUT: true; the input reads as it did. -/
def fnExactUndoSafeSpec : ChangeSpec := { name := "fnExactUndoSafe", fn := fun _ => fun
  | [d] => { results := [.lit (.bool true)], args := [d] }
  | _ => none }
def fnExactUndoSafeRow : OpenClaim := { program := "ytdchfiiaollheaa", sum := "fa1c8521ec9d84da96ee6f557b813398306185e1e688f6c21d91319ff9167a8e", func := "loop.example/sagaflows/laws.FnExactUndoSafe", spec := "fnExactUndoSafe", unfollowed := true, recurses := true, apart := false }
def FnExactUndoSafeSaid : Prop := fnExactUndoSafeRow.holds Try.pinned (OpenSpec.ofChange fnExactUndoSafeSpec)

/-- ITS FALSE NEIGHBOUR: 'it returns false'. Refute it at one input. -/
def fnExactUndoSafeWrong : ChangeSpec := { name := "fnExactUndoSafe", fn := fun _ => fun
  | [d] => { results := [.lit (.bool false)], args := [d] }
  | _ => none }
def FnExactUndoSafeWrongFalsely : Prop := fnExactUndoSafeRow.holds Try.pinned (OpenSpec.ofChange fnExactUndoSafeWrong)

/-- 'laws.FnUndoPointNone': WHATEVER THE INPUT: true; the input reads as it did. -/
def fnUndoPointNoneSpec : ChangeSpec := { name := "fnUndoPointNone", fn := fun _ => fun
  | [d] => { results := [.lit (.bool true)], args := [d] }
  | _ => none }
def fnUndoPointNoneRow : OpenClaim := { program := "ytdchfiiaollheaa", sum := "fa1c8521ec9d84da96ee6f557b813398306185e1e688f6c21d91319ff9167a8e", func := "loop.example/sagaflows/laws.FnUndoPointNone", spec := "fnUndoPointNone", unfollowed := true, recurses := true, apart := false }
def FnUndoPointNoneSaid : Prop := fnUndoPointNoneRow.holds Try.pinned (OpenSpec.ofChange fnUndoPointNoneSpec)

/-- ITS FALSE NEIGHBOUR: 'it returns false'. Refute it at one input. -/
def fnUndoPointNoneWrong : ChangeSpec := { name := "fnUndoPointNone", fn := fun _ => fun
  | [d] => { results := [.lit (.bool false)], args := [d] }
  | _ => none }
def FnUndoPointNoneWrongFalsely : Prop := fnUndoPointNoneRow.holds Try.pinned (OpenSpec.ofChange fnUndoPointNoneWrong)

/-- 'laws.FnExactUndoPoint': WHATEVER THE INPUT: true; the input reads as it did. -/
def fnExactUndoPointSpec : ChangeSpec := { name := "fnExactUndoPoint", fn := fun _ => fun
  | [d1, d2] => { results := [.lit (.bool true)], args := [d1, d2] }
  | _ => none }
def fnExactUndoPointRow : OpenClaim := { program := "ytdchfiiaollheaa", sum := "fa1c8521ec9d84da96ee6f557b813398306185e1e688f6c21d91319ff9167a8e", func := "loop.example/sagaflows/laws.FnExactUndoPoint", spec := "fnExactUndoPoint", unfollowed := true, recurses := true, apart := false }
def FnExactUndoPointSaid : Prop := fnExactUndoPointRow.holds Try.pinned (OpenSpec.ofChange fnExactUndoPointSpec)

/-- ITS FALSE NEIGHBOUR: 'it returns false'. Refute it at one input. -/
def fnExactUndoPointWrong : ChangeSpec := { name := "fnExactUndoPoint", fn := fun _ => fun
  | [d1, d2] => { results := [.lit (.bool false)], args := [d1, d2] }
  | _ => none }
def FnExactUndoPointWrongFalsely : Prop := fnExactUndoPointRow.holds Try.pinned (OpenSpec.ofChange fnExactUndoPointWrong)

/-- 'laws.FnUndoLeft': WHATEVER THE INPUT: true; the input reads as it did. -/
def fnUndoLeftSpec : ChangeSpec := { name := "fnUndoLeft", fn := fun _ => fun
  | [d] => { results := [.lit (.bool true)], args := [d] }
  | _ => none }
def fnUndoLeftRow : OpenClaim := { program := "ytdchfiiaollheaa", sum := "fa1c8521ec9d84da96ee6f557b813398306185e1e688f6c21d91319ff9167a8e", func := "loop.example/sagaflows/laws.FnUndoLeft", spec := "fnUndoLeft", unfollowed := true, recurses := true, apart := false }
def FnUndoLeftSaid : Prop := fnUndoLeftRow.holds Try.pinned (OpenSpec.ofChange fnUndoLeftSpec)

/-- ITS FALSE NEIGHBOUR: 'it returns false'. Refute it at one input. -/
def fnUndoLeftWrong : ChangeSpec := { name := "fnUndoLeft", fn := fun _ => fun
  | [d] => { results := [.lit (.bool false)], args := [d] }
  | _ => none }
def FnUndoLeftWrongFalsely : Prop := fnUndoLeftRow.holds Try.pinned (OpenSpec.ofChange fnUndoLeftWrong)

/-- 'laws.FnUndoPlanLeft': WHATEVER THE INPUT: true; the input reads as it did. -/
def fnUndoPlanLeftSpec : ChangeSpec := { name := "fnUndoPlanLeft", fn := fun _ => fun
  | [d] => { results := [.lit (.bool true)], args := [d] }
  | _ => none }
def fnUndoPlanLeftRow : OpenClaim := { program := "ytdchfiiaollheaa", sum := "fa1c8521ec9d84da96ee6f557b813398306185e1e688f6c21d91319ff9167a8e", func := "loop.example/sagaflows/laws.FnUndoPlanLeft", spec := "fnUndoPlanLeft", unfollowed := true, recurses := true, apart := false }
def FnUndoPlanLeftSaid : Prop := fnUndoPlanLeftRow.holds Try.pinned (OpenSpec.ofChange fnUndoPlanLeftSpec)

/-- ITS FALSE NEIGHBOUR: 'it returns false'. Refute it at one input. -/
def fnUndoPlanLeftWrong : ChangeSpec := { name := "fnUndoPlanLeft", fn := fun _ => fun
  | [d] => { results := [.lit (.bool false)], args := [d] }
  | _ => none }
def FnUndoPlanLeftWrongFalsely : Prop := fnUndoPlanLeftRow.holds Try.pinned (OpenSpec.ofChange fnUndoPlanLeftWrong)

/-- 'laws.FnUndoPlanSteps': WHATEVER THE INPUT: true; the input reads as it did. -/
def fnUndoPlanStepsSpec : ChangeSpec := { name := "fnUndoPlanSteps", fn := fun _ => fun
  | [d] => { results := [.lit (.bool true)], args := [d] }
  | _ => none }
def fnUndoPlanStepsRow : OpenClaim := { program := "ytdchfiiaollheaa", sum := "fa1c8521ec9d84da96ee6f557b813398306185e1e688f6c21d91319ff9167a8e", func := "loop.example/sagaflows/laws.FnUndoPlanSteps", spec := "fnUndoPlanSteps", unfollowed := true, recurses := true, apart := false }
def FnUndoPlanStepsSaid : Prop := fnUndoPlanStepsRow.holds Try.pinned (OpenSpec.ofChange fnUndoPlanStepsSpec)

/-- ITS FALSE NEIGHBOUR: 'it returns false'. Refute it at one input. -/
def fnUndoPlanStepsWrong : ChangeSpec := { name := "fnUndoPlanSteps", fn := fun _ => fun
  | [d] => { results := [.lit (.bool false)], args := [d] }
  | _ => none }
def FnUndoPlanStepsWrongFalsely : Prop := fnUndoPlanStepsRow.holds Try.pinned (OpenSpec.ofChange fnUndoPlanStepsWrong)

/-- 'laws.FnUndoSafe': WHATEVER THE INPUT: true; the input reads as it did. -/
def fnUndoSafeSpec : ChangeSpec := { name := "fnUndoSafe", fn := fun _ => fun
  | [d1, d2] => { results := [.lit (.bool true)], args := [d1, d2] }
  | _ => none }
def fnUndoSafeRow : OpenClaim := { program := "ytdchfiiaollheaa", sum := "fa1c8521ec9d84da96ee6f557b813398306185e1e688f6c21d91319ff9167a8e", func := "loop.example/sagaflows/laws.FnUndoSafe", spec := "fnUndoSafe", unfollowed := true, recurses := true, apart := false }
def FnUndoSafeSaid : Prop := fnUndoSafeRow.holds Try.pinned (OpenSpec.ofChange fnUndoSafeSpec)

/-- ITS FALSE NEIGHBOUR: 'it returns false'. Refute it at one input. -/
def fnUndoSafeWrong : ChangeSpec := { name := "fnUndoSafe", fn := fun _ => fun
  | [d1, d2] => { results := [.lit (.bool false)], args := [d1, d2] }
  | _ => none }
def FnUndoSafeWrongFalsely : Prop := fnUndoSafeRow.holds Try.pinned (OpenSpec.ofChange fnUndoSafeWrong)

/-- 'laws.FnUndoPoint': WHATEVER THE INPUT: true; the input reads as it did. -/
def fnUndoPointSpec : ChangeSpec := { name := "fnUndoPoint", fn := fun _ => fun
  | [d] => { results := [.lit (.bool true)], args := [d] }
  | _ => none }
def fnUndoPointRow : OpenClaim := { program := "ytdchfiiaollheaa", sum := "fa1c8521ec9d84da96ee6f557b813398306185e1e688f6c21d91319ff9167a8e", func := "loop.example/sagaflows/laws.FnUndoPoint", spec := "fnUndoPoint", unfollowed := true, recurses := true, apart := false }
def FnUndoPointSaid : Prop := fnUndoPointRow.holds Try.pinned (OpenSpec.ofChange fnUndoPointSpec)

/-- ITS FALSE NEIGHBOUR: 'it returns false'. Refute it at one input. -/
def fnUndoPointWrong : ChangeSpec := { name := "fnUndoPoint", fn := fun _ => fun
  | [d] => { results := [.lit (.bool false)], args := [d] }
  | _ => none }
def FnUndoPointWrongFalsely : Prop := fnUndoPointRow.holds Try.pinned (OpenSpec.ofChange fnUndoPointWrong)

/-- 'laws.FnUndoPlan': WHATEVER THE INPUT: true; the input reads as it did. -/
def fnUndoPlanSpec : ChangeSpec := { name := "fnUndoPlan", fn := fun _ => fun
  | [d] => { results := [.lit (.bool true)], args := [d] }
  | _ => none }
def fnUndoPlanRow : OpenClaim := { program := "ytdchfiiaollheaa", sum := "fa1c8521ec9d84da96ee6f557b813398306185e1e688f6c21d91319ff9167a8e", func := "loop.example/sagaflows/laws.FnUndoPlan", spec := "fnUndoPlan", unfollowed := true, recurses := true, apart := false }
def FnUndoPlanSaid : Prop := fnUndoPlanRow.holds Try.pinned (OpenSpec.ofChange fnUndoPlanSpec)

/-- ITS FALSE NEIGHBOUR: 'it returns false'. Refute it at one input. -/
def fnUndoPlanWrong : ChangeSpec := { name := "fnUndoPlan", fn := fun _ => fun
  | [d] => { results := [.lit (.bool false)], args := [d] }
  | _ => none }
def FnUndoPlanWrongFalsely : Prop := fnUndoPlanRow.holds Try.pinned (OpenSpec.ofChange fnUndoPlanWrong)

/-- 'laws.FnExactUndoLeft': WHATEVER THE INPUT: true; the input reads as it did. -/
def fnExactUndoLeftSpec : ChangeSpec := { name := "fnExactUndoLeft", fn := fun _ => fun
  | [d1, d2] => { results := [.lit (.bool true)], args := [d1, d2] }
  | _ => none }
def fnExactUndoLeftRow : OpenClaim := { program := "ytdchfiiaollheaa", sum := "fa1c8521ec9d84da96ee6f557b813398306185e1e688f6c21d91319ff9167a8e", func := "loop.example/sagaflows/laws.FnExactUndoLeft", spec := "fnExactUndoLeft", unfollowed := true, recurses := true, apart := false }
def FnExactUndoLeftSaid : Prop := fnExactUndoLeftRow.holds Try.pinned (OpenSpec.ofChange fnExactUndoLeftSpec)

/-- ITS FALSE NEIGHBOUR: 'it returns false'. Refute it at one input. -/
def fnExactUndoLeftWrong : ChangeSpec := { name := "fnExactUndoLeft", fn := fun _ => fun
  | [d1, d2] => { results := [.lit (.bool false)], args := [d1, d2] }
  | _ => none }
def FnExactUndoLeftWrongFalsely : Prop := fnExactUndoLeftRow.holds Try.pinned (OpenSpec.ofChange fnExactUndoLeftWrong)

/-- 'laws.FnExactUndoPlan': WHATEVER THE INPUT: true; the input reads as it did. -/
def fnExactUndoPlanSpec : ChangeSpec := { name := "fnExactUndoPlan", fn := fun _ => fun
  | [d1, d2] => { results := [.lit (.bool true)], args := [d1, d2] }
  | _ => none }
def fnExactUndoPlanRow : OpenClaim := { program := "ytdchfiiaollheaa", sum := "fa1c8521ec9d84da96ee6f557b813398306185e1e688f6c21d91319ff9167a8e", func := "loop.example/sagaflows/laws.FnExactUndoPlan", spec := "fnExactUndoPlan", unfollowed := true, recurses := true, apart := false }
def FnExactUndoPlanSaid : Prop := fnExactUndoPlanRow.holds Try.pinned (OpenSpec.ofChange fnExactUndoPlanSpec)

/-- ITS FALSE NEIGHBOUR: 'it returns false'. Refute it at one input. -/
def fnExactUndoPlanWrong : ChangeSpec := { name := "fnExactUndoPlan", fn := fun _ => fun
  | [d1, d2] => { results := [.lit (.bool false)], args := [d1, d2] }
  | _ => none }
def FnExactUndoPlanWrongFalsely : Prop := fnExactUndoPlanRow.holds Try.pinned (OpenSpec.ofChange fnExactUndoPlanWrong)

/- THE SECOND FORM. 'bulk': how many values and letters a reading holds, each counted each time it is reached (what is shared counts as often as it is met; a slice's spare places count too). A statement '..UptoSaid' is the law's where the arguments, and the package variables that the reading takes, are together of bulk at most 1048576: NARROWER than '..Said'. Prove '..Said' where nothing that the law and all that it calls make is longer than what came in: it says more and counts as full. Else prove '..UptoSaid'. A law counts once. -/
mutual
def uptoBulk {H : Type} : DataW H → Nat
  | .lit (.string bytes) => bytes.length + 1
  | .lit _ => 1
  | .nil => 1
  | .ptr d => uptoBulk d + 1
  | .slice elems spare => uptoBulkAll elems + uptoBulkAll spare + 1
  | .agg parts => uptoBulkAll parts + 1
  | .iface _ d => uptoBulk d + 1
  | .map entries => uptoBulkEntries entries + 1
  | .held _ => 1
def uptoBulkAll {H : Type} : List (DataW H) → Nat
  | [] => 0
  | d :: r => uptoBulk d + uptoBulkAll r
def uptoBulkEntries {H : Type} : List (Lit × DataW H) → Nat
  | [] => 0
  | x :: r => uptoBulkEntry x + uptoBulkEntries r
def uptoBulkEntry {H : Type} : Lit × DataW H → Nat
  | (.string bytes, d) => bytes.length + uptoBulk d + 1
  | (_, d) => uptoBulk d + 1
 end
def uptoSmall : (H : Type) → List (DataW H) → Bool := fun _ ds => decide (uptoBulkAll ds ≤ 1048576)
def OpenSpec.upto (s : _root_.Go.ChangeSpec) : _root_.Go.OpenSpec := { _root_.Go.OpenSpec.ofChange s with cond := some uptoSmall }

/-- 'laws.FnUndoSafeAll', WHERE WHAT IT READS IS OF BULK AT MOST 1048576: true; the input reads as it did. -/
def fnUndoSafeAllUptoRow : OpenClaim := { program := "ytdchfiiaollheaa", sum := "fa1c8521ec9d84da96ee6f557b813398306185e1e688f6c21d91319ff9167a8e", func := "loop.example/sagaflows/laws.FnUndoSafeAll", spec := "fnUndoSafeAll", unfollowed := true, recurses := true, apart := false, narrowed := true }
def FnUndoSafeAllUptoSaid : Prop := fnUndoSafeAllUptoRow.holds Try.pinned (OpenSpec.upto fnUndoSafeAllSpec)

/-- 'laws.FnExactUndoSafe', WHERE WHAT IT READS IS OF BULK AT MOST 1048576: true; the input reads as it did. -/
def fnExactUndoSafeUptoRow : OpenClaim := { program := "ytdchfiiaollheaa", sum := "fa1c8521ec9d84da96ee6f557b813398306185e1e688f6c21d91319ff9167a8e", func := "loop.example/sagaflows/laws.FnExactUndoSafe", spec := "fnExactUndoSafe", unfollowed := true, recurses := true, apart := false, narrowed := true }
def FnExactUndoSafeUptoSaid : Prop := fnExactUndoSafeUptoRow.holds Try.pinned (OpenSpec.upto fnExactUndoSafeSpec)

/-- 'laws.FnUndoPointNone', WHERE WHAT IT READS IS OF BULK AT MOST 1048576: true; the input reads as it did. -/
def fnUndoPointNoneUptoRow : OpenClaim := { program := "ytdchfiiaollheaa", sum := "fa1c8521ec9d84da96ee6f557b813398306185e1e688f6c21d91319ff9167a8e", func := "loop.example/sagaflows/laws.FnUndoPointNone", spec := "fnUndoPointNone", unfollowed := true, recurses := true, apart := false, narrowed := true }
def FnUndoPointNoneUptoSaid : Prop := fnUndoPointNoneUptoRow.holds Try.pinned (OpenSpec.upto fnUndoPointNoneSpec)

/-- 'laws.FnExactUndoPoint', WHERE WHAT IT READS IS OF BULK AT MOST 1048576: true; the input reads as it did. -/
def fnExactUndoPointUptoRow : OpenClaim := { program := "ytdchfiiaollheaa", sum := "fa1c8521ec9d84da96ee6f557b813398306185e1e688f6c21d91319ff9167a8e", func := "loop.example/sagaflows/laws.FnExactUndoPoint", spec := "fnExactUndoPoint", unfollowed := true, recurses := true, apart := false, narrowed := true }
def FnExactUndoPointUptoSaid : Prop := fnExactUndoPointUptoRow.holds Try.pinned (OpenSpec.upto fnExactUndoPointSpec)

/-- 'laws.FnUndoLeft', WHERE WHAT IT READS IS OF BULK AT MOST 1048576: true; the input reads as it did. -/
def fnUndoLeftUptoRow : OpenClaim := { program := "ytdchfiiaollheaa", sum := "fa1c8521ec9d84da96ee6f557b813398306185e1e688f6c21d91319ff9167a8e", func := "loop.example/sagaflows/laws.FnUndoLeft", spec := "fnUndoLeft", unfollowed := true, recurses := true, apart := false, narrowed := true }
def FnUndoLeftUptoSaid : Prop := fnUndoLeftUptoRow.holds Try.pinned (OpenSpec.upto fnUndoLeftSpec)

/-- 'laws.FnUndoPlanLeft', WHERE WHAT IT READS IS OF BULK AT MOST 1048576: true; the input reads as it did. -/
def fnUndoPlanLeftUptoRow : OpenClaim := { program := "ytdchfiiaollheaa", sum := "fa1c8521ec9d84da96ee6f557b813398306185e1e688f6c21d91319ff9167a8e", func := "loop.example/sagaflows/laws.FnUndoPlanLeft", spec := "fnUndoPlanLeft", unfollowed := true, recurses := true, apart := false, narrowed := true }
def FnUndoPlanLeftUptoSaid : Prop := fnUndoPlanLeftUptoRow.holds Try.pinned (OpenSpec.upto fnUndoPlanLeftSpec)

/-- 'laws.FnUndoPlanSteps', WHERE WHAT IT READS IS OF BULK AT MOST 1048576: true; the input reads as it did. -/
def fnUndoPlanStepsUptoRow : OpenClaim := { program := "ytdchfiiaollheaa", sum := "fa1c8521ec9d84da96ee6f557b813398306185e1e688f6c21d91319ff9167a8e", func := "loop.example/sagaflows/laws.FnUndoPlanSteps", spec := "fnUndoPlanSteps", unfollowed := true, recurses := true, apart := false, narrowed := true }
def FnUndoPlanStepsUptoSaid : Prop := fnUndoPlanStepsUptoRow.holds Try.pinned (OpenSpec.upto fnUndoPlanStepsSpec)

/-- 'laws.FnUndoSafe', WHERE WHAT IT READS IS OF BULK AT MOST 1048576: true; the input reads as it did. -/
def fnUndoSafeUptoRow : OpenClaim := { program := "ytdchfiiaollheaa", sum := "fa1c8521ec9d84da96ee6f557b813398306185e1e688f6c21d91319ff9167a8e", func := "loop.example/sagaflows/laws.FnUndoSafe", spec := "fnUndoSafe", unfollowed := true, recurses := true, apart := false, narrowed := true }
def FnUndoSafeUptoSaid : Prop := fnUndoSafeUptoRow.holds Try.pinned (OpenSpec.upto fnUndoSafeSpec)

/-- 'laws.FnUndoPoint', WHERE WHAT IT READS IS OF BULK AT MOST 1048576: true; the input reads as it did. -/
def fnUndoPointUptoRow : OpenClaim := { program := "ytdchfiiaollheaa", sum := "fa1c8521ec9d84da96ee6f557b813398306185e1e688f6c21d91319ff9167a8e", func := "loop.example/sagaflows/laws.FnUndoPoint", spec := "fnUndoPoint", unfollowed := true, recurses := true, apart := false, narrowed := true }
def FnUndoPointUptoSaid : Prop := fnUndoPointUptoRow.holds Try.pinned (OpenSpec.upto fnUndoPointSpec)

/-- 'laws.FnUndoPlan', WHERE WHAT IT READS IS OF BULK AT MOST 1048576: true; the input reads as it did. -/
def fnUndoPlanUptoRow : OpenClaim := { program := "ytdchfiiaollheaa", sum := "fa1c8521ec9d84da96ee6f557b813398306185e1e688f6c21d91319ff9167a8e", func := "loop.example/sagaflows/laws.FnUndoPlan", spec := "fnUndoPlan", unfollowed := true, recurses := true, apart := false, narrowed := true }
def FnUndoPlanUptoSaid : Prop := fnUndoPlanUptoRow.holds Try.pinned (OpenSpec.upto fnUndoPlanSpec)

/-- 'laws.FnExactUndoLeft', WHERE WHAT IT READS IS OF BULK AT MOST 1048576: true; the input reads as it did. -/
def fnExactUndoLeftUptoRow : OpenClaim := { program := "ytdchfiiaollheaa", sum := "fa1c8521ec9d84da96ee6f557b813398306185e1e688f6c21d91319ff9167a8e", func := "loop.example/sagaflows/laws.FnExactUndoLeft", spec := "fnExactUndoLeft", unfollowed := true, recurses := true, apart := false, narrowed := true }
def FnExactUndoLeftUptoSaid : Prop := fnExactUndoLeftUptoRow.holds Try.pinned (OpenSpec.upto fnExactUndoLeftSpec)

/-- 'laws.FnExactUndoPlan', WHERE WHAT IT READS IS OF BULK AT MOST 1048576: true; the input reads as it did. -/
def fnExactUndoPlanUptoRow : OpenClaim := { program := "ytdchfiiaollheaa", sum := "fa1c8521ec9d84da96ee6f557b813398306185e1e688f6c21d91319ff9167a8e", func := "loop.example/sagaflows/laws.FnExactUndoPlan", spec := "fnExactUndoPlan", unfollowed := true, recurses := true, apart := false, narrowed := true }
def FnExactUndoPlanUptoSaid : Prop := fnExactUndoPlanUptoRow.holds Try.pinned (OpenSpec.upto fnExactUndoPlanSpec)

end Rows
end Go.Proofs.Ytdchfiiaollheaa
