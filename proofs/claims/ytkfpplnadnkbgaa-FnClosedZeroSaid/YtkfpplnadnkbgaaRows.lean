/-
  No cell of these rows narrows 'for every input' (looked for: loops, veiled, ifaces, maps, wideKeys, modest, calm, conditions, laid).
  DERIVED. THE GIVEN ROWS OF THIS SEAT. 5 by the template 'for every input the law returns true; each argument reads behind the call as it read before'; 0 by the template 'total and deterministic' (their statements: YtkfpplnadnkbgaaTotals.lean).
  GIVEN WITH THE SEED: the statements are not yours to turn. If you find one false, say at which input.
  Laid BY PROGRAM, IN A SANDBOX (cutbox-rows.mjs): the forced cells as the released guide's own fill.sh prints them over the translation 3d11e2c0c9bd0d4b… (all of the seat's roots in one cut). By AI agents, Wed Nov 11 2026. No macro, syntax, notation, axiom, sorry.
-/
import Derived.Test.YtkfpplnadnkbgaaChecked
import GoSem.Claim
import GoSem.ClaimJoined
import GoSem.ClaimMapViews
import Derived.JoinedTies
import Derived.KernelRfl
namespace Go.Proofs.Ytkfpplnadnkbgaa
/- THE CELL 'sum', in the pinned program and in every row, IS THE sha256 OF THE DUMP (.gsa) THAT YtkfpplnadnkbgaaProg.lean LOADS. Nothing in Lean hashes anything: it is a label: what it is worth is what the hold of that sum in a sandbox is worth. -/
noncomputable def Try.pinned : Pinned := { name := "ytkfpplnadnkbgaa", sum := "3d11e2c0c9bd0d4b7b41109a351cc02536497f243cd7afae30c5e05dd660b3ad", checked := Try.checked }
namespace Rows
def none {H : Type} : Left H := { results := [], args := [] }

/-- 'laws.FnExactVarsValid': WHATEVER THE INPUT: true; the input reads as it did. -/
def fnExactVarsValidSpec : ChangeSpec := { name := "fnExactVarsValid", fn := fun _ => fun
  | [d] => { results := [.lit (.bool true)], args := [d] }
  | _ => none }
def fnExactVarsValidRow : OpenClaim := { program := "ytkfpplnadnkbgaa", sum := "3d11e2c0c9bd0d4b7b41109a351cc02536497f243cd7afae30c5e05dd660b3ad", func := "loop.example/sagaflows/laws.FnExactVarsValid", spec := "fnExactVarsValid", apart := false }
def FnExactVarsValidSaid : Prop := fnExactVarsValidRow.holds Try.pinned (OpenSpec.ofChange fnExactVarsValidSpec)

/-- ITS FALSE NEIGHBOUR: 'it returns false'. Refute it at one input. -/
def fnExactVarsValidWrong : ChangeSpec := { name := "fnExactVarsValid", fn := fun _ => fun
  | [d] => { results := [.lit (.bool false)], args := [d] }
  | _ => none }
def FnExactVarsValidWrongFalsely : Prop := fnExactVarsValidRow.holds Try.pinned (OpenSpec.ofChange fnExactVarsValidWrong)

/-- 'laws.FnVarsPart': WHATEVER THE INPUT: true; the input reads as it did. -/
def fnVarsPartSpec : ChangeSpec := { name := "fnVarsPart", fn := fun _ => fun
  | [d1, d2] => { results := [.lit (.bool true)], args := [d1, d2] }
  | _ => none }
def fnVarsPartRow : OpenClaim := { program := "ytkfpplnadnkbgaa", sum := "3d11e2c0c9bd0d4b7b41109a351cc02536497f243cd7afae30c5e05dd660b3ad", func := "loop.example/sagaflows/laws.FnVarsPart", spec := "fnVarsPart", apart := false }
def FnVarsPartSaid : Prop := fnVarsPartRow.holds Try.pinned (OpenSpec.ofChange fnVarsPartSpec)

/-- ITS FALSE NEIGHBOUR: 'it returns false'. Refute it at one input. -/
def fnVarsPartWrong : ChangeSpec := { name := "fnVarsPart", fn := fun _ => fun
  | [d1, d2] => { results := [.lit (.bool false)], args := [d1, d2] }
  | _ => none }
def FnVarsPartWrongFalsely : Prop := fnVarsPartRow.holds Try.pinned (OpenSpec.ofChange fnVarsPartWrong)

/-- 'laws.FnGuardsPart': WHATEVER THE INPUT: true; the input reads as it did. -/
def fnGuardsPartSpec : ChangeSpec := { name := "fnGuardsPart", fn := fun _ => fun
  | [d1, d2] => { results := [.lit (.bool true)], args := [d1, d2] }
  | _ => none }
def fnGuardsPartRow : OpenClaim := { program := "ytkfpplnadnkbgaa", sum := "3d11e2c0c9bd0d4b7b41109a351cc02536497f243cd7afae30c5e05dd660b3ad", func := "loop.example/sagaflows/laws.FnGuardsPart", spec := "fnGuardsPart", apart := false }
def FnGuardsPartSaid : Prop := fnGuardsPartRow.holds Try.pinned (OpenSpec.ofChange fnGuardsPartSpec)

/-- ITS FALSE NEIGHBOUR: 'it returns false'. Refute it at one input. -/
def fnGuardsPartWrong : ChangeSpec := { name := "fnGuardsPart", fn := fun _ => fun
  | [d1, d2] => { results := [.lit (.bool false)], args := [d1, d2] }
  | _ => none }
def FnGuardsPartWrongFalsely : Prop := fnGuardsPartRow.holds Try.pinned (OpenSpec.ofChange fnGuardsPartWrong)

/-- 'laws.FnClosedZero': WHATEVER THE INPUT: true; the input reads as it did. -/
def fnClosedZeroSpec : ChangeSpec := { name := "fnClosedZero", fn := fun _ => fun
  | [d] => { results := [.lit (.bool true)], args := [d] }
  | _ => none }
def fnClosedZeroRow : OpenClaim := { program := "ytkfpplnadnkbgaa", sum := "3d11e2c0c9bd0d4b7b41109a351cc02536497f243cd7afae30c5e05dd660b3ad", func := "loop.example/sagaflows/laws.FnClosedZero", spec := "fnClosedZero", apart := false }
def FnClosedZeroSaid : Prop := fnClosedZeroRow.holds Try.pinned (OpenSpec.ofChange fnClosedZeroSpec)

/-- ITS FALSE NEIGHBOUR: 'it returns false'. Refute it at one input. -/
def fnClosedZeroWrong : ChangeSpec := { name := "fnClosedZero", fn := fun _ => fun
  | [d] => { results := [.lit (.bool false)], args := [d] }
  | _ => none }
def FnClosedZeroWrongFalsely : Prop := fnClosedZeroRow.holds Try.pinned (OpenSpec.ofChange fnClosedZeroWrong)

/-- 'laws.FnExactGuardsValid': WHATEVER THE INPUT: true; the input reads as it did. -/
def fnExactGuardsValidSpec : ChangeSpec := { name := "fnExactGuardsValid", fn := fun _ => fun
  | [d] => { results := [.lit (.bool true)], args := [d] }
  | _ => none }
def fnExactGuardsValidRow : OpenClaim := { program := "ytkfpplnadnkbgaa", sum := "3d11e2c0c9bd0d4b7b41109a351cc02536497f243cd7afae30c5e05dd660b3ad", func := "loop.example/sagaflows/laws.FnExactGuardsValid", spec := "fnExactGuardsValid", apart := false }
def FnExactGuardsValidSaid : Prop := fnExactGuardsValidRow.holds Try.pinned (OpenSpec.ofChange fnExactGuardsValidSpec)

/-- ITS FALSE NEIGHBOUR: 'it returns false'. Refute it at one input. -/
def fnExactGuardsValidWrong : ChangeSpec := { name := "fnExactGuardsValid", fn := fun _ => fun
  | [d] => { results := [.lit (.bool false)], args := [d] }
  | _ => none }
def FnExactGuardsValidWrongFalsely : Prop := fnExactGuardsValidRow.holds Try.pinned (OpenSpec.ofChange fnExactGuardsValidWrong)

/- THE SECOND FORM. 'bulk': how many values and letters a reading holds, each counted each time it is reached (what is shared counts as often as it is met; a slice's spare places count too). A statement '..UptoSaid' is the law's where the arguments, and the package variables that the reading takes, are together of bulk at most 1048576: NARROWER than '..Said'. Prove '..Said' where nothing that the law and all that it calls make is longer than what came in: it says more and counts as full. Else prove '..UptoSaid'. A law counts once. -/
mutual
def uptoBulk {H : Type} : DataW H → Nat
  | .lit (.string bytes) => bytes.length + 1
  | .lit _ => 1
  | .nil => 1
  | .ptr d => uptoBulk d + 1
  | .slice elems spare => uptoBulkAll elems + uptoBulkAll spare + 1
  | .agg parts => uptoBulkAll parts + 1
  | .iface _ d => uptoBulk d + 1
  | .map entries => uptoBulkEntries entries + 1
  | .held _ => 1
def uptoBulkAll {H : Type} : List (DataW H) → Nat
  | [] => 0
  | d :: r => uptoBulk d + uptoBulkAll r
def uptoBulkEntries {H : Type} : List (Lit × DataW H) → Nat
  | [] => 0
  | x :: r => uptoBulkEntry x + uptoBulkEntries r
def uptoBulkEntry {H : Type} : Lit × DataW H → Nat
  | (.string bytes, d) => bytes.length + uptoBulk d + 1
  | (_, d) => uptoBulk d + 1
 end
def uptoSmall : (H : Type) → List (DataW H) → Bool := fun _ ds => decide (uptoBulkAll ds ≤ 1048576)
def OpenSpec.upto (s : _root_.Go.ChangeSpec) : _root_.Go.OpenSpec := { _root_.Go.OpenSpec.ofChange s with cond := some uptoSmall }

/-- 'laws.FnExactVarsValid', WHERE WHAT IT READS IS OF BULK AT MOST 1048576: true; the input reads as it did. -/
def fnExactVarsValidUptoRow : OpenClaim := { program := "ytkfpplnadnkbgaa", sum := "3d11e2c0c9bd0d4b7b41109a351cc02536497f243cd7afae30c5e05dd660b3ad", func := "loop.example/sagaflows/laws.FnExactVarsValid", spec := "fnExactVarsValid", apart := false, narrowed := true }
def FnExactVarsValidUptoSaid : Prop := fnExactVarsValidUptoRow.holds Try.pinned (OpenSpec.upto fnExactVarsValidSpec)

/-- 'laws.FnVarsPart', WHERE WHAT IT READS IS OF BULK AT MOST 1048576: true; the input reads as it did. -/
def fnVarsPartUptoRow : OpenClaim := { program := "ytkfpplnadnkbgaa", sum := "3d11e2c0c9bd0d4b7b41109a351cc02536497f243cd7afae30c5e05dd660b3ad", func := "loop.example/sagaflows/laws.FnVarsPart", spec := "fnVarsPart", apart := false, narrowed := true }
def FnVarsPartUptoSaid : Prop := fnVarsPartUptoRow.holds Try.pinned (OpenSpec.upto fnVarsPartSpec)

/-- 'laws.FnGuardsPart', WHERE WHAT IT READS IS OF BULK AT MOST 1048576: true; the input reads as it did. -/
def fnGuardsPartUptoRow : OpenClaim := { program := "ytkfpplnadnkbgaa", sum := "3d11e2c0c9bd0d4b7b41109a351cc02536497f243cd7afae30c5e05dd660b3ad", func := "loop.example/sagaflows/laws.FnGuardsPart", spec := "fnGuardsPart", apart := false, narrowed := true }
def FnGuardsPartUptoSaid : Prop := fnGuardsPartUptoRow.holds Try.pinned (OpenSpec.upto fnGuardsPartSpec)

/-- 'laws.FnClosedZero', WHERE WHAT IT READS IS OF BULK AT MOST 1048576: true; the input reads as it did. -/
def fnClosedZeroUptoRow : OpenClaim := { program := "ytkfpplnadnkbgaa", sum := "3d11e2c0c9bd0d4b7b41109a351cc02536497f243cd7afae30c5e05dd660b3ad", func := "loop.example/sagaflows/laws.FnClosedZero", spec := "fnClosedZero", apart := false, narrowed := true }
def FnClosedZeroUptoSaid : Prop := fnClosedZeroUptoRow.holds Try.pinned (OpenSpec.upto fnClosedZeroSpec)

/-- 'laws.FnExactGuardsValid', WHERE WHAT IT READS IS OF BULK AT MOST 1048576: true; the input reads as it did. -/
def fnExactGuardsValidUptoRow : OpenClaim := { program := "ytkfpplnadnkbgaa", sum := "3d11e2c0c9bd0d4b7b41109a351cc02536497f243cd7afae30c5e05dd660b3ad", func := "loop.example/sagaflows/laws.FnExactGuardsValid", spec := "fnExactGuardsValid", apart := false, narrowed := true }
def FnExactGuardsValidUptoSaid : Prop := fnExactGuardsValidUptoRow.holds Try.pinned (OpenSpec.upto fnExactGuardsValidSpec)

end Rows
end Go.Proofs.Ytkfpplnadnkbgaa
