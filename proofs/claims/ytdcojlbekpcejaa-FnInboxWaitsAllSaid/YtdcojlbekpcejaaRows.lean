/-
  No cell of these rows narrows 'for every input' (looked for: loops, veiled, ifaces, maps, wideKeys, modest, calm, conditions, laid).
  DERIVED. THE GIVEN ROWS OF THIS SEAT. 13 by the template 'for every input the law returns true; each argument reads behind the call as it read before'; 0 by the template 'total and deterministic' (their statements: YtdcojlbekpcejaaTotals.lean).
  GIVEN WITH THE SEED: the statements are not yours to turn. If you find one false, say at which input.
  Laid BY PROGRAM, IN A SANDBOX (cutbox-rows.mjs): the forced cells as the released guide's own fill.sh prints them over the translation 6dc973ba817bf83e… (all of the seat's roots in one cut). By AI agents, Wed Nov 11 2026. No macro, syntax, notation, axiom, sorry.
-/
import Derived.Test.YtdcojlbekpcejaaChecked
import GoSem.Claim
import GoSem.ClaimJoined
import GoSem.ClaimMapViews
import Derived.JoinedTies
import Derived.KernelRfl
namespace Go.Proofs.Ytdcojlbekpcejaa
/- THE CELL 'sum', in the pinned program and in every row, IS THE sha256 OF THE DUMP (.gsa) THAT YtdcojlbekpcejaaProg.lean LOADS. Nothing in Lean hashes anything: it is a label: what it is worth is what the hold of that sum in a sandbox is worth. -/
noncomputable def Try.pinned : Pinned := { name := "ytdcojlbekpcejaa", sum := "6dc973ba817bf83ea62c31a150d802518ba20996fdc0fd3dcecf442a89bac0fb", checked := Try.checked }
namespace Rows
def none {H : Type} : Left H := { results := [], args := [] }

/-- 'laws.FnInboxPart': WHATEVER THE INPUT: true; the input reads as it did. -/
def fnInboxPartSpec : ChangeSpec := { name := "fnInboxPart", fn := fun _ => fun
  | [d] => { results := [.lit (.bool true)], args := [d] }
  | _ => none }
def fnInboxPartRow : OpenClaim := { program := "ytdcojlbekpcejaa", sum := "6dc973ba817bf83ea62c31a150d802518ba20996fdc0fd3dcecf442a89bac0fb", func := "loop.example/sagaflows/laws.FnInboxPart", spec := "fnInboxPart", apart := false }
def FnInboxPartSaid : Prop := fnInboxPartRow.holds Try.pinned (OpenSpec.ofChange fnInboxPartSpec)

/-- ITS FALSE NEIGHBOUR: 'it returns false'. Refute it at one input. -/
def fnInboxPartWrong : ChangeSpec := { name := "fnInboxPart", fn := fun _ => fun
  | [d] => { results := [.lit (.bool false)], args := [d] }
  | _ => none }
def FnInboxPartWrongFalsely : Prop := fnInboxPartRow.holds Try.pinned (OpenSpec.ofChange fnInboxPartWrong)

/-- 'laws.FnExactInboxValid': WHATEVER THE INPUT: true; the input reads as it did. -/
def fnExactInboxValidSpec : ChangeSpec := { name := "fnExactInboxValid", fn := fun _ => fun
  | [d] => { results := [.lit (.bool true)], args := [d] }
  | _ => none }
def fnExactInboxValidRow : OpenClaim := { program := "ytdcojlbekpcejaa", sum := "6dc973ba817bf83ea62c31a150d802518ba20996fdc0fd3dcecf442a89bac0fb", func := "loop.example/sagaflows/laws.FnExactInboxValid", spec := "fnExactInboxValid", apart := false }
def FnExactInboxValidSaid : Prop := fnExactInboxValidRow.holds Try.pinned (OpenSpec.ofChange fnExactInboxValidSpec)

/-- ITS FALSE NEIGHBOUR: 'it returns false'. Refute it at one input. -/
def fnExactInboxValidWrong : ChangeSpec := { name := "fnExactInboxValid", fn := fun _ => fun
  | [d] => { results := [.lit (.bool false)], args := [d] }
  | _ => none }
def FnExactInboxValidWrongFalsely : Prop := fnExactInboxValidRow.holds Try.pinned (OpenSpec.ofChange fnExactInboxValidWrong)

/-- 'laws.FnInboxHas': WHATEVER THE INPUT: true; the input reads as it did. -/
def fnInboxHasSpec : ChangeSpec := { name := "fnInboxHas", fn := fun _ => fun
  | [d] => { results := [.lit (.bool true)], args := [d] }
  | _ => none }
def fnInboxHasRow : OpenClaim := { program := "ytdcojlbekpcejaa", sum := "6dc973ba817bf83ea62c31a150d802518ba20996fdc0fd3dcecf442a89bac0fb", func := "loop.example/sagaflows/laws.FnInboxHas", spec := "fnInboxHas", apart := false }
def FnInboxHasSaid : Prop := fnInboxHasRow.holds Try.pinned (OpenSpec.ofChange fnInboxHasSpec)

/-- ITS FALSE NEIGHBOUR: 'it returns false'. Refute it at one input. -/
def fnInboxHasWrong : ChangeSpec := { name := "fnInboxHas", fn := fun _ => fun
  | [d] => { results := [.lit (.bool false)], args := [d] }
  | _ => none }
def FnInboxHasWrongFalsely : Prop := fnInboxHasRow.holds Try.pinned (OpenSpec.ofChange fnInboxHasWrong)

/-- 'laws.FnExactInboxHas': WHATEVER THE INPUT: true; the input reads as it did. -/
def fnExactInboxHasSpec : ChangeSpec := { name := "fnExactInboxHas", fn := fun _ => fun
  | [d1, d2] => { results := [.lit (.bool true)], args := [d1, d2] }
  | _ => none }
def fnExactInboxHasRow : OpenClaim := { program := "ytdcojlbekpcejaa", sum := "6dc973ba817bf83ea62c31a150d802518ba20996fdc0fd3dcecf442a89bac0fb", func := "loop.example/sagaflows/laws.FnExactInboxHas", spec := "fnExactInboxHas", apart := false }
def FnExactInboxHasSaid : Prop := fnExactInboxHasRow.holds Try.pinned (OpenSpec.ofChange fnExactInboxHasSpec)

/-- ITS FALSE NEIGHBOUR: 'it returns false'. Refute it at one input. -/
def fnExactInboxHasWrong : ChangeSpec := { name := "fnExactInboxHas", fn := fun _ => fun
  | [d1, d2] => { results := [.lit (.bool false)], args := [d1, d2] }
  | _ => none }
def FnExactInboxHasWrongFalsely : Prop := fnExactInboxHasRow.holds Try.pinned (OpenSpec.ofChange fnExactInboxHasWrong)

/-- 'laws.FnInboxWaits': WHATEVER THE INPUT: true; the input reads as it did. -/
def fnInboxWaitsSpec : ChangeSpec := { name := "fnInboxWaits", fn := fun _ => fun
  | [d] => { results := [.lit (.bool true)], args := [d] }
  | _ => none }
def fnInboxWaitsRow : OpenClaim := { program := "ytdcojlbekpcejaa", sum := "6dc973ba817bf83ea62c31a150d802518ba20996fdc0fd3dcecf442a89bac0fb", func := "loop.example/sagaflows/laws.FnInboxWaits", spec := "fnInboxWaits", apart := false }
def FnInboxWaitsSaid : Prop := fnInboxWaitsRow.holds Try.pinned (OpenSpec.ofChange fnInboxWaitsSpec)

/-- ITS FALSE NEIGHBOUR: 'it returns false'. Refute it at one input. -/
def fnInboxWaitsWrong : ChangeSpec := { name := "fnInboxWaits", fn := fun _ => fun
  | [d] => { results := [.lit (.bool false)], args := [d] }
  | _ => none }
def FnInboxWaitsWrongFalsely : Prop := fnInboxWaitsRow.holds Try.pinned (OpenSpec.ofChange fnInboxWaitsWrong)

/-- 'laws.FnExactInboxWaits': WHATEVER THE INPUT: true; the input reads as it did. -/
def fnExactInboxWaitsSpec : ChangeSpec := { name := "fnExactInboxWaits", fn := fun _ => fun
  | [d] => { results := [.lit (.bool true)], args := [d] }
  | _ => none }
def fnExactInboxWaitsRow : OpenClaim := { program := "ytdcojlbekpcejaa", sum := "6dc973ba817bf83ea62c31a150d802518ba20996fdc0fd3dcecf442a89bac0fb", func := "loop.example/sagaflows/laws.FnExactInboxWaits", spec := "fnExactInboxWaits", apart := false }
def FnExactInboxWaitsSaid : Prop := fnExactInboxWaitsRow.holds Try.pinned (OpenSpec.ofChange fnExactInboxWaitsSpec)

/-- ITS FALSE NEIGHBOUR: 'it returns false'. Refute it at one input. -/
def fnExactInboxWaitsWrong : ChangeSpec := { name := "fnExactInboxWaits", fn := fun _ => fun
  | [d] => { results := [.lit (.bool false)], args := [d] }
  | _ => none }
def FnExactInboxWaitsWrongFalsely : Prop := fnExactInboxWaitsRow.holds Try.pinned (OpenSpec.ofChange fnExactInboxWaitsWrong)

/-- 'laws.FnInboxWaitsAll': WHATEVER THE INPUT: true; the input reads as it did. -/
def fnInboxWaitsAllSpec : ChangeSpec := { name := "fnInboxWaitsAll", fn := fun _ => fun
  | [d] => { results := [.lit (.bool true)], args := [d] }
  | _ => none }
def fnInboxWaitsAllRow : OpenClaim := { program := "ytdcojlbekpcejaa", sum := "6dc973ba817bf83ea62c31a150d802518ba20996fdc0fd3dcecf442a89bac0fb", func := "loop.example/sagaflows/laws.FnInboxWaitsAll", spec := "fnInboxWaitsAll", inPlace := ["slices.overlaps[int]"], apart := false }
def FnInboxWaitsAllSaid : Prop := fnInboxWaitsAllRow.holds Try.pinned (OpenSpec.ofChange fnInboxWaitsAllSpec)

/-- ITS FALSE NEIGHBOUR: 'it returns false'. Refute it at one input. -/
def fnInboxWaitsAllWrong : ChangeSpec := { name := "fnInboxWaitsAll", fn := fun _ => fun
  | [d] => { results := [.lit (.bool false)], args := [d] }
  | _ => none }
def FnInboxWaitsAllWrongFalsely : Prop := fnInboxWaitsAllRow.holds Try.pinned (OpenSpec.ofChange fnInboxWaitsAllWrong)

/-- 'laws.FnInboxAll': WHATEVER THE INPUT: true; the input reads as it did. -/
def fnInboxAllSpec : ChangeSpec := { name := "fnInboxAll", fn := fun _ => fun
  | [d] => { results := [.lit (.bool true)], args := [d] }
  | _ => none }
def fnInboxAllRow : OpenClaim := { program := "ytdcojlbekpcejaa", sum := "6dc973ba817bf83ea62c31a150d802518ba20996fdc0fd3dcecf442a89bac0fb", func := "loop.example/sagaflows/laws.FnInboxAll", spec := "fnInboxAll", inPlace := ["slices.overlaps[int]"], apart := false }
def FnInboxAllSaid : Prop := fnInboxAllRow.holds Try.pinned (OpenSpec.ofChange fnInboxAllSpec)

/-- ITS FALSE NEIGHBOUR: 'it returns false'. Refute it at one input. -/
def fnInboxAllWrong : ChangeSpec := { name := "fnInboxAll", fn := fun _ => fun
  | [d] => { results := [.lit (.bool false)], args := [d] }
  | _ => none }
def FnInboxAllWrongFalsely : Prop := fnInboxAllRow.holds Try.pinned (OpenSpec.ofChange fnInboxAllWrong)

/-- 'laws.FnInboxSwap': WHATEVER THE INPUT: true; the input reads as it did. -/
def fnInboxSwapSpec : ChangeSpec := { name := "fnInboxSwap", fn := fun _ => fun
  | [d] => { results := [.lit (.bool true)], args := [d] }
  | _ => none }
def fnInboxSwapRow : OpenClaim := { program := "ytdcojlbekpcejaa", sum := "6dc973ba817bf83ea62c31a150d802518ba20996fdc0fd3dcecf442a89bac0fb", func := "loop.example/sagaflows/laws.FnInboxSwap", spec := "fnInboxSwap", inPlace := ["slices.overlaps[int]"], apart := false }
def FnInboxSwapSaid : Prop := fnInboxSwapRow.holds Try.pinned (OpenSpec.ofChange fnInboxSwapSpec)

/-- ITS FALSE NEIGHBOUR: 'it returns false'. Refute it at one input. -/
def fnInboxSwapWrong : ChangeSpec := { name := "fnInboxSwap", fn := fun _ => fun
  | [d] => { results := [.lit (.bool false)], args := [d] }
  | _ => none }
def FnInboxSwapWrongFalsely : Prop := fnInboxSwapRow.holds Try.pinned (OpenSpec.ofChange fnInboxSwapWrong)

/-- 'laws.FnInboxNew': WHATEVER THE INPUT: true; the input reads as it did. -/
def fnInboxNewSpec : ChangeSpec := { name := "fnInboxNew", fn := fun _ => fun
  | [d] => { results := [.lit (.bool true)], args := [d] }
  | _ => none }
def fnInboxNewRow : OpenClaim := { program := "ytdcojlbekpcejaa", sum := "6dc973ba817bf83ea62c31a150d802518ba20996fdc0fd3dcecf442a89bac0fb", func := "loop.example/sagaflows/laws.FnInboxNew", spec := "fnInboxNew", inPlace := ["slices.overlaps[int]"], apart := false }
def FnInboxNewSaid : Prop := fnInboxNewRow.holds Try.pinned (OpenSpec.ofChange fnInboxNewSpec)

/-- ITS FALSE NEIGHBOUR: 'it returns false'. Refute it at one input. -/
def fnInboxNewWrong : ChangeSpec := { name := "fnInboxNew", fn := fun _ => fun
  | [d] => { results := [.lit (.bool false)], args := [d] }
  | _ => none }
def FnInboxNewWrongFalsely : Prop := fnInboxNewRow.holds Try.pinned (OpenSpec.ofChange fnInboxNewWrong)

/-- 'laws.FnInboxOthers': WHATEVER THE INPUT: true; the input reads as it did. -/
def fnInboxOthersSpec : ChangeSpec := { name := "fnInboxOthers", fn := fun _ => fun
  | [d1, d2] => { results := [.lit (.bool true)], args := [d1, d2] }
  | _ => none }
def fnInboxOthersRow : OpenClaim := { program := "ytdcojlbekpcejaa", sum := "6dc973ba817bf83ea62c31a150d802518ba20996fdc0fd3dcecf442a89bac0fb", func := "loop.example/sagaflows/laws.FnInboxOthers", spec := "fnInboxOthers", inPlace := ["slices.overlaps[int]"], apart := false }
def FnInboxOthersSaid : Prop := fnInboxOthersRow.holds Try.pinned (OpenSpec.ofChange fnInboxOthersSpec)

/-- ITS FALSE NEIGHBOUR: 'it returns false'. Refute it at one input. -/
def fnInboxOthersWrong : ChangeSpec := { name := "fnInboxOthers", fn := fun _ => fun
  | [d1, d2] => { results := [.lit (.bool false)], args := [d1, d2] }
  | _ => none }
def FnInboxOthersWrongFalsely : Prop := fnInboxOthersRow.holds Try.pinned (OpenSpec.ofChange fnInboxOthersWrong)

/-- 'laws.FnInboxTake': WHATEVER THE INPUT: true; the input reads as it did. -/
def fnInboxTakeSpec : ChangeSpec := { name := "fnInboxTake", fn := fun _ => fun
  | [d] => { results := [.lit (.bool true)], args := [d] }
  | _ => none }
def fnInboxTakeRow : OpenClaim := { program := "ytdcojlbekpcejaa", sum := "6dc973ba817bf83ea62c31a150d802518ba20996fdc0fd3dcecf442a89bac0fb", func := "loop.example/sagaflows/laws.FnInboxTake", spec := "fnInboxTake", inPlace := ["slices.overlaps[int]"], apart := false }
def FnInboxTakeSaid : Prop := fnInboxTakeRow.holds Try.pinned (OpenSpec.ofChange fnInboxTakeSpec)

/-- ITS FALSE NEIGHBOUR: 'it returns false'. Refute it at one input. -/
def fnInboxTakeWrong : ChangeSpec := { name := "fnInboxTake", fn := fun _ => fun
  | [d] => { results := [.lit (.bool false)], args := [d] }
  | _ => none }
def FnInboxTakeWrongFalsely : Prop := fnInboxTakeRow.holds Try.pinned (OpenSpec.ofChange fnInboxTakeWrong)

/-- 'laws.FnExactInboxTake': WHATEVER THE INPUT: true; the input reads as it did. -/
def fnExactInboxTakeSpec : ChangeSpec := { name := "fnExactInboxTake", fn := fun _ => fun
  | [d1, d2] => { results := [.lit (.bool true)], args := [d1, d2] }
  | _ => none }
def fnExactInboxTakeRow : OpenClaim := { program := "ytdcojlbekpcejaa", sum := "6dc973ba817bf83ea62c31a150d802518ba20996fdc0fd3dcecf442a89bac0fb", func := "loop.example/sagaflows/laws.FnExactInboxTake", spec := "fnExactInboxTake", inPlace := ["slices.overlaps[int]"], apart := false }
def FnExactInboxTakeSaid : Prop := fnExactInboxTakeRow.holds Try.pinned (OpenSpec.ofChange fnExactInboxTakeSpec)

/-- ITS FALSE NEIGHBOUR: 'it returns false'. Refute it at one input. -/
def fnExactInboxTakeWrong : ChangeSpec := { name := "fnExactInboxTake", fn := fun _ => fun
  | [d1, d2] => { results := [.lit (.bool false)], args := [d1, d2] }
  | _ => none }
def FnExactInboxTakeWrongFalsely : Prop := fnExactInboxTakeRow.holds Try.pinned (OpenSpec.ofChange fnExactInboxTakeWrong)

/- THE SECOND FORM. 'bulk': how many values and letters a reading holds, each counted each time it is reached (what is shared counts as often as it is met; a slice's spare places count too). A statement '..UptoSaid' is the law's where the arguments, and the package variables that the reading takes, are together of bulk at most 1048576: NARROWER than '..Said'. Prove '..Said' where nothing that the law and all that it calls make is longer than what came in: it says more and counts as full. Else prove '..UptoSaid'. A law counts once. -/
mutual
def uptoBulk {H : Type} : DataW H → Nat
  | .lit (.string bytes) => bytes.length + 1
  | .lit _ => 1
  | .nil => 1
  | .ptr d => uptoBulk d + 1
  | .slice elems spare => uptoBulkAll elems + uptoBulkAll spare + 1
  | .agg parts => uptoBulkAll parts + 1
  | .iface _ d => uptoBulk d + 1
  | .map entries => uptoBulkEntries entries + 1
  | .held _ => 1
def uptoBulkAll {H : Type} : List (DataW H) → Nat
  | [] => 0
  | d :: r => uptoBulk d + uptoBulkAll r
def uptoBulkEntries {H : Type} : List (Lit × DataW H) → Nat
  | [] => 0
  | x :: r => uptoBulkEntry x + uptoBulkEntries r
def uptoBulkEntry {H : Type} : Lit × DataW H → Nat
  | (.string bytes, d) => bytes.length + uptoBulk d + 1
  | (_, d) => uptoBulk d + 1
 end
def uptoSmall : (H : Type) → List (DataW H) → Bool := fun _ ds => decide (uptoBulkAll ds ≤ 1048576)
def OpenSpec.upto (s : _root_.Go.ChangeSpec) : _root_.Go.OpenSpec := { _root_.Go.OpenSpec.ofChange s with cond := some uptoSmall }

/-- 'laws.FnInboxPart', WHERE WHAT IT READS IS OF BULK AT MOST 1048576: true; the input reads as it did. -/
def fnInboxPartUptoRow : OpenClaim := { program := "ytdcojlbekpcejaa", sum := "6dc973ba817bf83ea62c31a150d802518ba20996fdc0fd3dcecf442a89bac0fb", func := "loop.example/sagaflows/laws.FnInboxPart", spec := "fnInboxPart", apart := false, narrowed := true }
def FnInboxPartUptoSaid : Prop := fnInboxPartUptoRow.holds Try.pinned (OpenSpec.upto fnInboxPartSpec)

/-- 'laws.FnExactInboxValid', WHERE WHAT IT READS IS OF BULK AT MOST 1048576: true; the input reads as it did. -/
def fnExactInboxValidUptoRow : OpenClaim := { program := "ytdcojlbekpcejaa", sum := "6dc973ba817bf83ea62c31a150d802518ba20996fdc0fd3dcecf442a89bac0fb", func := "loop.example/sagaflows/laws.FnExactInboxValid", spec := "fnExactInboxValid", apart := false, narrowed := true }
def FnExactInboxValidUptoSaid : Prop := fnExactInboxValidUptoRow.holds Try.pinned (OpenSpec.upto fnExactInboxValidSpec)

/-- 'laws.FnInboxHas', WHERE WHAT IT READS IS OF BULK AT MOST 1048576: true; the input reads as it did. -/
def fnInboxHasUptoRow : OpenClaim := { program := "ytdcojlbekpcejaa", sum := "6dc973ba817bf83ea62c31a150d802518ba20996fdc0fd3dcecf442a89bac0fb", func := "loop.example/sagaflows/laws.FnInboxHas", spec := "fnInboxHas", apart := false, narrowed := true }
def FnInboxHasUptoSaid : Prop := fnInboxHasUptoRow.holds Try.pinned (OpenSpec.upto fnInboxHasSpec)

/-- 'laws.FnExactInboxHas', WHERE WHAT IT READS IS OF BULK AT MOST 1048576: true; the input reads as it did. -/
def fnExactInboxHasUptoRow : OpenClaim := { program := "ytdcojlbekpcejaa", sum := "6dc973ba817bf83ea62c31a150d802518ba20996fdc0fd3dcecf442a89bac0fb", func := "loop.example/sagaflows/laws.FnExactInboxHas", spec := "fnExactInboxHas", apart := false, narrowed := true }
def FnExactInboxHasUptoSaid : Prop := fnExactInboxHasUptoRow.holds Try.pinned (OpenSpec.upto fnExactInboxHasSpec)

/-- 'laws.FnInboxWaits', WHERE WHAT IT READS IS OF BULK AT MOST 1048576: true; the input reads as it did. -/
def fnInboxWaitsUptoRow : OpenClaim := { program := "ytdcojlbekpcejaa", sum := "6dc973ba817bf83ea62c31a150d802518ba20996fdc0fd3dcecf442a89bac0fb", func := "loop.example/sagaflows/laws.FnInboxWaits", spec := "fnInboxWaits", apart := false, narrowed := true }
def FnInboxWaitsUptoSaid : Prop := fnInboxWaitsUptoRow.holds Try.pinned (OpenSpec.upto fnInboxWaitsSpec)

/-- 'laws.FnExactInboxWaits', WHERE WHAT IT READS IS OF BULK AT MOST 1048576: true; the input reads as it did. -/
def fnExactInboxWaitsUptoRow : OpenClaim := { program := "ytdcojlbekpcejaa", sum := "6dc973ba817bf83ea62c31a150d802518ba20996fdc0fd3dcecf442a89bac0fb", func := "loop.example/sagaflows/laws.FnExactInboxWaits", spec := "fnExactInboxWaits", apart := false, narrowed := true }
def FnExactInboxWaitsUptoSaid : Prop := fnExactInboxWaitsUptoRow.holds Try.pinned (OpenSpec.upto fnExactInboxWaitsSpec)

/-- 'laws.FnInboxWaitsAll', WHERE WHAT IT READS IS OF BULK AT MOST 1048576: true; the input reads as it did. -/
def fnInboxWaitsAllUptoRow : OpenClaim := { program := "ytdcojlbekpcejaa", sum := "6dc973ba817bf83ea62c31a150d802518ba20996fdc0fd3dcecf442a89bac0fb", func := "loop.example/sagaflows/laws.FnInboxWaitsAll", spec := "fnInboxWaitsAll", inPlace := ["slices.overlaps[int]"], apart := false, narrowed := true }
def FnInboxWaitsAllUptoSaid : Prop := fnInboxWaitsAllUptoRow.holds Try.pinned (OpenSpec.upto fnInboxWaitsAllSpec)

/-- 'laws.FnInboxAll', WHERE WHAT IT READS IS OF BULK AT MOST 1048576: true; the input reads as it did. -/
def fnInboxAllUptoRow : OpenClaim := { program := "ytdcojlbekpcejaa", sum := "6dc973ba817bf83ea62c31a150d802518ba20996fdc0fd3dcecf442a89bac0fb", func := "loop.example/sagaflows/laws.FnInboxAll", spec := "fnInboxAll", inPlace := ["slices.overlaps[int]"], apart := false, narrowed := true }
def FnInboxAllUptoSaid : Prop := fnInboxAllUptoRow.holds Try.pinned (OpenSpec.upto fnInboxAllSpec)

/-- 'laws.FnInboxSwap', WHERE WHAT IT READS IS OF BULK AT MOST 1048576: true; the input reads as it did. -/
def fnInboxSwapUptoRow : OpenClaim := { program := "ytdcojlbekpcejaa", sum := "6dc973ba817bf83ea62c31a150d802518ba20996fdc0fd3dcecf442a89bac0fb", func := "loop.example/sagaflows/laws.FnInboxSwap", spec := "fnInboxSwap", inPlace := ["slices.overlaps[int]"], apart := false, narrowed := true }
def FnInboxSwapUptoSaid : Prop := fnInboxSwapUptoRow.holds Try.pinned (OpenSpec.upto fnInboxSwapSpec)

/-- 'laws.FnInboxNew', WHERE WHAT IT READS IS OF BULK AT MOST 1048576: true; the input reads as it did. -/
def fnInboxNewUptoRow : OpenClaim := { program := "ytdcojlbekpcejaa", sum := "6dc973ba817bf83ea62c31a150d802518ba20996fdc0fd3dcecf442a89bac0fb", func := "loop.example/sagaflows/laws.FnInboxNew", spec := "fnInboxNew", inPlace := ["slices.overlaps[int]"], apart := false, narrowed := true }
def FnInboxNewUptoSaid : Prop := fnInboxNewUptoRow.holds Try.pinned (OpenSpec.upto fnInboxNewSpec)

/-- 'laws.FnInboxOthers', WHERE WHAT IT READS IS OF BULK AT MOST 1048576: true; the input reads as it did. -/
def fnInboxOthersUptoRow : OpenClaim := { program := "ytdcojlbekpcejaa", sum := "6dc973ba817bf83ea62c31a150d802518ba20996fdc0fd3dcecf442a89bac0fb", func := "loop.example/sagaflows/laws.FnInboxOthers", spec := "fnInboxOthers", inPlace := ["slices.overlaps[int]"], apart := false, narrowed := true }
def FnInboxOthersUptoSaid : Prop := fnInboxOthersUptoRow.holds Try.pinned (OpenSpec.upto fnInboxOthersSpec)

/-- 'laws.FnInboxTake', WHERE WHAT IT READS IS OF BULK AT MOST 1048576: true; the input reads as it did. -/
def fnInboxTakeUptoRow : OpenClaim := { program := "ytdcojlbekpcejaa", sum := "6dc973ba817bf83ea62c31a150d802518ba20996fdc0fd3dcecf442a89bac0fb", func := "loop.example/sagaflows/laws.FnInboxTake", spec := "fnInboxTake", inPlace := ["slices.overlaps[int]"], apart := false, narrowed := true }
def FnInboxTakeUptoSaid : Prop := fnInboxTakeUptoRow.holds Try.pinned (OpenSpec.upto fnInboxTakeSpec)

/-- 'laws.FnExactInboxTake', WHERE WHAT IT READS IS OF BULK AT MOST 1048576: true; the input reads as it did. -/
def fnExactInboxTakeUptoRow : OpenClaim := { program := "ytdcojlbekpcejaa", sum := "6dc973ba817bf83ea62c31a150d802518ba20996fdc0fd3dcecf442a89bac0fb", func := "loop.example/sagaflows/laws.FnExactInboxTake", spec := "fnExactInboxTake", inPlace := ["slices.overlaps[int]"], apart := false, narrowed := true }
def FnExactInboxTakeUptoSaid : Prop := fnExactInboxTakeUptoRow.holds Try.pinned (OpenSpec.upto fnExactInboxTakeSpec)

end Rows
end Go.Proofs.Ytdcojlbekpcejaa
