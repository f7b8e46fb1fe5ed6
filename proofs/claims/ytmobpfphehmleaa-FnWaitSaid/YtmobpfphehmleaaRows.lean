/-
  No cell of these rows narrows 'for every input' (looked for: loops, veiled, ifaces, maps, wideKeys, modest, calm, conditions, laid).
  DERIVED. THE GIVEN ROWS OF THIS SEAT. 12 by the template 'for every input the law returns true; each argument reads behind the call as it read before'; 0 by the template 'total and deterministic' (their statements: YtmobpfphehmleaaTotals.lean).
  GIVEN WITH THE SEED: the statements are not yours to turn. If you find one false, say at which input.
  Laid BY PROGRAM, IN A SANDBOX (cutbox-rows.mjs): the forced cells as the released guide's own fill.sh prints them over the translation 9b4f8719b8763139… (all of the seat's roots in one cut). By AI agents, Wed Nov 11 2026. No macro, syntax, notation, axiom, sorry.
-/
import Derived.Test.YtmobpfphehmleaaChecked
import GoSem.Claim
import GoSem.ClaimJoined
import GoSem.ClaimMapViews
import Derived.JoinedTies
import Derived.KernelRfl
namespace Go.Proofs.Ytmobpfphehmleaa
/- THE CELL 'sum', in the pinned program and in every row, IS THE sha256 OF THE DUMP (.gsa) THAT YtmobpfphehmleaaProg.lean LOADS. Nothing in Lean hashes anything: it is a label: what it is worth is what the hold of that sum in a sandbox is worth. -/
noncomputable def Try.pinned : Pinned := { name := "ytmobpfphehmleaa", sum := "9b4f8719b8763139635986277dbadd306169798645312787019c2a682f4e0b34", checked := Try.checked }
namespace Rows
def none {H : Type} : Left H := { results := [], args := [] }

/-- 'laws.FnExactPolicyValid': WHATEVER THE INPUT: true; the input reads as it did. -/
def fnExactPolicyValidSpec : ChangeSpec := { name := "fnExactPolicyValid", fn := fun _ => fun
  | [d] => { results := [.lit (.bool true)], args := [d] }
  | _ => none }
def fnExactPolicyValidRow : OpenClaim := { program := "ytmobpfphehmleaa", sum := "9b4f8719b8763139635986277dbadd306169798645312787019c2a682f4e0b34", func := "loop.example/sagaflows/laws.FnExactPolicyValid", spec := "fnExactPolicyValid", apart := false }
def FnExactPolicyValidSaid : Prop := fnExactPolicyValidRow.holds Try.pinned (OpenSpec.ofChange fnExactPolicyValidSpec)

/-- ITS FALSE NEIGHBOUR: 'it returns false'. Refute it at one input. -/
def fnExactPolicyValidWrong : ChangeSpec := { name := "fnExactPolicyValid", fn := fun _ => fun
  | [d] => { results := [.lit (.bool false)], args := [d] }
  | _ => none }
def FnExactPolicyValidWrongFalsely : Prop := fnExactPolicyValidRow.holds Try.pinned (OpenSpec.ofChange fnExactPolicyValidWrong)

/-- 'laws.FnPolicyPart': WHATEVER THE INPUT: true; the input reads as it did. -/
def fnPolicyPartSpec : ChangeSpec := { name := "fnPolicyPart", fn := fun _ => fun
  | [d] => { results := [.lit (.bool true)], args := [d] }
  | _ => none }
def fnPolicyPartRow : OpenClaim := { program := "ytmobpfphehmleaa", sum := "9b4f8719b8763139635986277dbadd306169798645312787019c2a682f4e0b34", func := "loop.example/sagaflows/laws.FnPolicyPart", spec := "fnPolicyPart", apart := false }
def FnPolicyPartSaid : Prop := fnPolicyPartRow.holds Try.pinned (OpenSpec.ofChange fnPolicyPartSpec)

/-- ITS FALSE NEIGHBOUR: 'it returns false'. Refute it at one input. -/
def fnPolicyPartWrong : ChangeSpec := { name := "fnPolicyPart", fn := fun _ => fun
  | [d] => { results := [.lit (.bool false)], args := [d] }
  | _ => none }
def FnPolicyPartWrongFalsely : Prop := fnPolicyPartRow.holds Try.pinned (OpenSpec.ofChange fnPolicyPartWrong)

/-- 'laws.FnExactRetryWait': WHATEVER THE INPUT: true; the input reads as it did. -/
def fnExactRetryWaitSpec : ChangeSpec := { name := "fnExactRetryWait", fn := fun _ => fun
  | [d1, d2] => { results := [.lit (.bool true)], args := [d1, d2] }
  | _ => none }
def fnExactRetryWaitRow : OpenClaim := { program := "ytmobpfphehmleaa", sum := "9b4f8719b8763139635986277dbadd306169798645312787019c2a682f4e0b34", func := "loop.example/sagaflows/laws.FnExactRetryWait", spec := "fnExactRetryWait", apart := false }
def FnExactRetryWaitSaid : Prop := fnExactRetryWaitRow.holds Try.pinned (OpenSpec.ofChange fnExactRetryWaitSpec)

/-- ITS FALSE NEIGHBOUR: 'it returns false'. Refute it at one input. -/
def fnExactRetryWaitWrong : ChangeSpec := { name := "fnExactRetryWait", fn := fun _ => fun
  | [d1, d2] => { results := [.lit (.bool false)], args := [d1, d2] }
  | _ => none }
def FnExactRetryWaitWrongFalsely : Prop := fnExactRetryWaitRow.holds Try.pinned (OpenSpec.ofChange fnExactRetryWaitWrong)

/-- 'laws.FnExactRetryAt': WHATEVER THE INPUT: true; the input reads as it did. -/
def fnExactRetryAtSpec : ChangeSpec := { name := "fnExactRetryAt", fn := fun _ => fun
  | [d1, d2] => { results := [.lit (.bool true)], args := [d1, d2] }
  | _ => none }
def fnExactRetryAtRow : OpenClaim := { program := "ytmobpfphehmleaa", sum := "9b4f8719b8763139635986277dbadd306169798645312787019c2a682f4e0b34", func := "loop.example/sagaflows/laws.FnExactRetryAt", spec := "fnExactRetryAt", apart := false }
def FnExactRetryAtSaid : Prop := fnExactRetryAtRow.holds Try.pinned (OpenSpec.ofChange fnExactRetryAtSpec)

/-- ITS FALSE NEIGHBOUR: 'it returns false'. Refute it at one input. -/
def fnExactRetryAtWrong : ChangeSpec := { name := "fnExactRetryAt", fn := fun _ => fun
  | [d1, d2] => { results := [.lit (.bool false)], args := [d1, d2] }
  | _ => none }
def FnExactRetryAtWrongFalsely : Prop := fnExactRetryAtRow.holds Try.pinned (OpenSpec.ofChange fnExactRetryAtWrong)

/-- 'laws.FnExactRetryBy': WHATEVER THE INPUT: true; the input reads as it did. -/
def fnExactRetryBySpec : ChangeSpec := { name := "fnExactRetryBy", fn := fun _ => fun
  | [d1, d2] => { results := [.lit (.bool true)], args := [d1, d2] }
  | _ => none }
def fnExactRetryByRow : OpenClaim := { program := "ytmobpfphehmleaa", sum := "9b4f8719b8763139635986277dbadd306169798645312787019c2a682f4e0b34", func := "loop.example/sagaflows/laws.FnExactRetryBy", spec := "fnExactRetryBy", apart := false }
def FnExactRetryBySaid : Prop := fnExactRetryByRow.holds Try.pinned (OpenSpec.ofChange fnExactRetryBySpec)

/-- ITS FALSE NEIGHBOUR: 'it returns false'. Refute it at one input. -/
def fnExactRetryByWrong : ChangeSpec := { name := "fnExactRetryBy", fn := fun _ => fun
  | [d1, d2] => { results := [.lit (.bool false)], args := [d1, d2] }
  | _ => none }
def FnExactRetryByWrongFalsely : Prop := fnExactRetryByRow.holds Try.pinned (OpenSpec.ofChange fnExactRetryByWrong)

/-- 'laws.FnWait': WHATEVER THE INPUT: true; the input reads as it did. -/
def fnWaitSpec : ChangeSpec := { name := "fnWait", fn := fun _ => fun
  | [d] => { results := [.lit (.bool true)], args := [d] }
  | _ => none }
def fnWaitRow : OpenClaim := { program := "ytmobpfphehmleaa", sum := "9b4f8719b8763139635986277dbadd306169798645312787019c2a682f4e0b34", func := "loop.example/sagaflows/laws.FnWait", spec := "fnWait", apart := false }
def FnWaitSaid : Prop := fnWaitRow.holds Try.pinned (OpenSpec.ofChange fnWaitSpec)

/-- ITS FALSE NEIGHBOUR: 'it returns false'. Refute it at one input. -/
def fnWaitWrong : ChangeSpec := { name := "fnWait", fn := fun _ => fun
  | [d] => { results := [.lit (.bool false)], args := [d] }
  | _ => none }
def FnWaitWrongFalsely : Prop := fnWaitRow.holds Try.pinned (OpenSpec.ofChange fnWaitWrong)

/-- 'laws.FnWaitFirst': WHATEVER THE INPUT: true; the input reads as it did. -/
def fnWaitFirstSpec : ChangeSpec := { name := "fnWaitFirst", fn := fun _ => fun
  | [d] => { results := [.lit (.bool true)], args := [d] }
  | _ => none }
def fnWaitFirstRow : OpenClaim := { program := "ytmobpfphehmleaa", sum := "9b4f8719b8763139635986277dbadd306169798645312787019c2a682f4e0b34", func := "loop.example/sagaflows/laws.FnWaitFirst", spec := "fnWaitFirst", apart := false }
def FnWaitFirstSaid : Prop := fnWaitFirstRow.holds Try.pinned (OpenSpec.ofChange fnWaitFirstSpec)

/-- ITS FALSE NEIGHBOUR: 'it returns false'. Refute it at one input. -/
def fnWaitFirstWrong : ChangeSpec := { name := "fnWaitFirst", fn := fun _ => fun
  | [d] => { results := [.lit (.bool false)], args := [d] }
  | _ => none }
def FnWaitFirstWrongFalsely : Prop := fnWaitFirstRow.holds Try.pinned (OpenSpec.ofChange fnWaitFirstWrong)

/-- 'laws.FnRetryFirst': WHATEVER THE INPUT: true; the input reads as it did. -/
def fnRetryFirstSpec : ChangeSpec := { name := "fnRetryFirst", fn := fun _ => fun
  | [d] => { results := [.lit (.bool true)], args := [d] }
  | _ => none }
def fnRetryFirstRow : OpenClaim := { program := "ytmobpfphehmleaa", sum := "9b4f8719b8763139635986277dbadd306169798645312787019c2a682f4e0b34", func := "loop.example/sagaflows/laws.FnRetryFirst", spec := "fnRetryFirst", apart := false }
def FnRetryFirstSaid : Prop := fnRetryFirstRow.holds Try.pinned (OpenSpec.ofChange fnRetryFirstSpec)

/-- ITS FALSE NEIGHBOUR: 'it returns false'. Refute it at one input. -/
def fnRetryFirstWrong : ChangeSpec := { name := "fnRetryFirst", fn := fun _ => fun
  | [d] => { results := [.lit (.bool false)], args := [d] }
  | _ => none }
def FnRetryFirstWrongFalsely : Prop := fnRetryFirstRow.holds Try.pinned (OpenSpec.ofChange fnRetryFirstWrong)

/-- 'laws.FnRetryAt': WHATEVER THE INPUT: true; the input reads as it did. -/
def fnRetryAtSpec : ChangeSpec := { name := "fnRetryAt", fn := fun _ => fun
  | [d] => { results := [.lit (.bool true)], args := [d] }
  | _ => none }
def fnRetryAtRow : OpenClaim := { program := "ytmobpfphehmleaa", sum := "9b4f8719b8763139635986277dbadd306169798645312787019c2a682f4e0b34", func := "loop.example/sagaflows/laws.FnRetryAt", spec := "fnRetryAt", apart := false }
def FnRetryAtSaid : Prop := fnRetryAtRow.holds Try.pinned (OpenSpec.ofChange fnRetryAtSpec)

/-- ITS FALSE NEIGHBOUR: 'it returns false'. Refute it at one input. -/
def fnRetryAtWrong : ChangeSpec := { name := "fnRetryAt", fn := fun _ => fun
  | [d] => { results := [.lit (.bool false)], args := [d] }
  | _ => none }
def FnRetryAtWrongFalsely : Prop := fnRetryAtRow.holds Try.pinned (OpenSpec.ofChange fnRetryAtWrong)

/-- 'laws.FnRetryAtBy': WHATEVER THE INPUT: true; the input reads as it did. -/
def fnRetryAtBySpec : ChangeSpec := { name := "fnRetryAtBy", fn := fun _ => fun
  | [d] => { results := [.lit (.bool true)], args := [d] }
  | _ => none }
def fnRetryAtByRow : OpenClaim := { program := "ytmobpfphehmleaa", sum := "9b4f8719b8763139635986277dbadd306169798645312787019c2a682f4e0b34", func := "loop.example/sagaflows/laws.FnRetryAtBy", spec := "fnRetryAtBy", apart := false }
def FnRetryAtBySaid : Prop := fnRetryAtByRow.holds Try.pinned (OpenSpec.ofChange fnRetryAtBySpec)

/-- ITS FALSE NEIGHBOUR: 'it returns false'. Refute it at one input. -/
def fnRetryAtByWrong : ChangeSpec := { name := "fnRetryAtBy", fn := fun _ => fun
  | [d] => { results := [.lit (.bool false)], args := [d] }
  | _ => none }
def FnRetryAtByWrongFalsely : Prop := fnRetryAtByRow.holds Try.pinned (OpenSpec.ofChange fnRetryAtByWrong)

/-- 'laws.FnRetryBy': WHATEVER THE INPUT: true; the input reads as it did. -/
def fnRetryBySpec : ChangeSpec := { name := "fnRetryBy", fn := fun _ => fun
  | [d] => { results := [.lit (.bool true)], args := [d] }
  | _ => none }
def fnRetryByRow : OpenClaim := { program := "ytmobpfphehmleaa", sum := "9b4f8719b8763139635986277dbadd306169798645312787019c2a682f4e0b34", func := "loop.example/sagaflows/laws.FnRetryBy", spec := "fnRetryBy", apart := false }
def FnRetryBySaid : Prop := fnRetryByRow.holds Try.pinned (OpenSpec.ofChange fnRetryBySpec)

/-- ITS FALSE NEIGHBOUR: 'it returns false'. Refute it at one input. -/
def fnRetryByWrong : ChangeSpec := { name := "fnRetryBy", fn := fun _ => fun
  | [d] => { results := [.lit (.bool false)], args := [d] }
  | _ => none }
def FnRetryByWrongFalsely : Prop := fnRetryByRow.holds Try.pinned (OpenSpec.ofChange fnRetryByWrong)

/-- 'laws.FnRetryByMore': WHATEVER THE INPUT: true; the input reads as it did. -/
def fnRetryByMoreSpec : ChangeSpec := { name := "fnRetryByMore", fn := fun _ => fun
  | [d] => { results := [.lit (.bool true)], args := [d] }
  | _ => none }
def fnRetryByMoreRow : OpenClaim := { program := "ytmobpfphehmleaa", sum := "9b4f8719b8763139635986277dbadd306169798645312787019c2a682f4e0b34", func := "loop.example/sagaflows/laws.FnRetryByMore", spec := "fnRetryByMore", apart := false }
def FnRetryByMoreSaid : Prop := fnRetryByMoreRow.holds Try.pinned (OpenSpec.ofChange fnRetryByMoreSpec)

/-- ITS FALSE NEIGHBOUR: 'it returns false'. Refute it at one input. -/
def fnRetryByMoreWrong : ChangeSpec := { name := "fnRetryByMore", fn := fun _ => fun
  | [d] => { results := [.lit (.bool false)], args := [d] }
  | _ => none }
def FnRetryByMoreWrongFalsely : Prop := fnRetryByMoreRow.holds Try.pinned (OpenSpec.ofChange fnRetryByMoreWrong)

/- THE SECOND FORM. 'bulk': how many values and letters a reading holds, each counted each time it is reached (what is shared counts as often as it is met; a slice's spare places count too). A statement '..UptoSaid' is the law's where the arguments, and the package variables that the reading takes, are together of bulk at most 1048576: NARROWER than '..Said'. Prove '..Said' where nothing that the law and all that it calls make is longer than what came in: it says more and counts as full. Else prove '..UptoSaid'. A law counts once. -/
mutual
def uptoBulk {H : Type} : DataW H → Nat
  | .lit (.string bytes) => bytes.length + 1
  | .lit _ => 1
  | .nil => 1
  | .ptr d => uptoBulk d + 1
  | .slice elems spare => uptoBulkAll elems + uptoBulkAll spare + 1
  | .agg parts => uptoBulkAll parts + 1
  | .iface _ d => uptoBulk d + 1
  | .map entries => uptoBulkEntries entries + 1
  | .held _ => 1
def uptoBulkAll {H : Type} : List (DataW H) → Nat
  | [] => 0
  | d :: r => uptoBulk d + uptoBulkAll r
def uptoBulkEntries {H : Type} : List (Lit × DataW H) → Nat
  | [] => 0
  | x :: r => uptoBulkEntry x + uptoBulkEntries r
def uptoBulkEntry {H : Type} : Lit × DataW H → Nat
  | (.string bytes, d) => bytes.length + uptoBulk d + 1
  | (_, d) => uptoBulk d + 1
 end
def uptoSmall : (H : Type) → List (DataW H) → Bool := fun _ ds => decide (uptoBulkAll ds ≤ 1048576)
def OpenSpec.upto (s : _root_.Go.ChangeSpec) : _root_.Go.OpenSpec := { _root_.Go.OpenSpec.ofChange s with cond := some uptoSmall }

/-- 'laws.FnExactPolicyValid', WHERE WHAT IT READS IS OF BULK AT MOST 1048576: true; the input reads as it did. -/
def fnExactPolicyValidUptoRow : OpenClaim := { program := "ytmobpfphehmleaa", sum := "9b4f8719b8763139635986277dbadd306169798645312787019c2a682f4e0b34", func := "loop.example/sagaflows/laws.FnExactPolicyValid", spec := "fnExactPolicyValid", apart := false, narrowed := true }
def FnExactPolicyValidUptoSaid : Prop := fnExactPolicyValidUptoRow.holds Try.pinned (OpenSpec.upto fnExactPolicyValidSpec)

/-- 'laws.FnPolicyPart', WHERE WHAT IT READS IS OF BULK AT MOST 1048576: true; the input reads as it did. -/
def fnPolicyPartUptoRow : OpenClaim := { program := "ytmobpfphehmleaa", sum := "9b4f8719b8763139635986277dbadd306169798645312787019c2a682f4e0b34", func := "loop.example/sagaflows/laws.FnPolicyPart", spec := "fnPolicyPart", apart := false, narrowed := true }
def FnPolicyPartUptoSaid : Prop := fnPolicyPartUptoRow.holds Try.pinned (OpenSpec.upto fnPolicyPartSpec)

/-- 'laws.FnExactRetryWait', WHERE WHAT IT READS IS OF BULK AT MOST 1048576: true; the input reads as it did. -/
def fnExactRetryWaitUptoRow : OpenClaim := { program := "ytmobpfphehmleaa", sum := "9b4f8719b8763139635986277dbadd306169798645312787019c2a682f4e0b34", func := "loop.example/sagaflows/laws.FnExactRetryWait", spec := "fnExactRetryWait", apart := false, narrowed := true }
def FnExactRetryWaitUptoSaid : Prop := fnExactRetryWaitUptoRow.holds Try.pinned (OpenSpec.upto fnExactRetryWaitSpec)

/-- 'laws.FnExactRetryAt', WHERE WHAT IT READS IS OF BULK AT MOST 1048576: true; the input reads as it did. -/
def fnExactRetryAtUptoRow : OpenClaim := { program := "ytmobpfphehmleaa", sum := "9b4f8719b8763139635986277dbadd306169798645312787019c2a682f4e0b34", func := "loop.example/sagaflows/laws.FnExactRetryAt", spec := "fnExactRetryAt", apart := false, narrowed := true }
def FnExactRetryAtUptoSaid : Prop := fnExactRetryAtUptoRow.holds Try.pinned (OpenSpec.upto fnExactRetryAtSpec)

/-- 'laws.FnExactRetryBy', WHERE WHAT IT READS IS OF BULK AT MOST 1048576: true; the input reads as it did. -/
def fnExactRetryByUptoRow : OpenClaim := { program := "ytmobpfphehmleaa", sum := "9b4f8719b8763139635986277dbadd306169798645312787019c2a682f4e0b34", func := "loop.example/sagaflows/laws.FnExactRetryBy", spec := "fnExactRetryBy", apart := false, narrowed := true }
def FnExactRetryByUptoSaid : Prop := fnExactRetryByUptoRow.holds Try.pinned (OpenSpec.upto fnExactRetryBySpec)

/-- 'laws.FnWait', WHERE WHAT IT READS IS OF BULK AT MOST 1048576: true; the input reads as it did. -/
def fnWaitUptoRow : OpenClaim := { program := "ytmobpfphehmleaa", sum := "9b4f8719b8763139635986277dbadd306169798645312787019c2a682f4e0b34", func := "loop.example/sagaflows/laws.FnWait", spec := "fnWait", apart := false, narrowed := true }
def FnWaitUptoSaid : Prop := fnWaitUptoRow.holds Try.pinned (OpenSpec.upto fnWaitSpec)

/-- 'laws.FnWaitFirst', WHERE WHAT IT READS IS OF BULK AT MOST 1048576: true; the input reads as it did. -/
def fnWaitFirstUptoRow : OpenClaim := { program := "ytmobpfphehmleaa", sum := "9b4f8719b8763139635986277dbadd306169798645312787019c2a682f4e0b34", func := "loop.example/sagaflows/laws.FnWaitFirst", spec := "fnWaitFirst", apart := false, narrowed := true }
def FnWaitFirstUptoSaid : Prop := fnWaitFirstUptoRow.holds Try.pinned (OpenSpec.upto fnWaitFirstSpec)

/-- 'laws.FnRetryFirst', WHERE WHAT IT READS IS OF BULK AT MOST 1048576: true; the input reads as it did. -/
def fnRetryFirstUptoRow : OpenClaim := { program := "ytmobpfphehmleaa", sum := "9b4f8719b8763139635986277dbadd306169798645312787019c2a682f4e0b34", func := "loop.example/sagaflows/laws.FnRetryFirst", spec := "fnRetryFirst", apart := false, narrowed := true }
def FnRetryFirstUptoSaid : Prop := fnRetryFirstUptoRow.holds Try.pinned (OpenSpec.upto fnRetryFirstSpec)

/-- 'laws.FnRetryAt', WHERE WHAT IT READS IS OF BULK AT MOST 1048576: true; the input reads as it did. -/
def fnRetryAtUptoRow : OpenClaim := { program := "ytmobpfphehmleaa", sum := "9b4f8719b8763139635986277dbadd306169798645312787019c2a682f4e0b34", func := "loop.example/sagaflows/laws.FnRetryAt", spec := "fnRetryAt", apart := false, narrowed := true }
def FnRetryAtUptoSaid : Prop := fnRetryAtUptoRow.holds Try.pinned (OpenSpec.upto fnRetryAtSpec)

/-- 'laws.FnRetryAtBy', WHERE WHAT IT READS IS OF BULK AT MOST 1048576: true; the input reads as it did. -/
def fnRetryAtByUptoRow : OpenClaim := { program := "ytmobpfphehmleaa", sum := "9b4f8719b8763139635986277dbadd306169798645312787019c2a682f4e0b34", func := "loop.example/sagaflows/laws.FnRetryAtBy", spec := "fnRetryAtBy", apart := false, narrowed := true }
def FnRetryAtByUptoSaid : Prop := fnRetryAtByUptoRow.holds Try.pinned (OpenSpec.upto fnRetryAtBySpec)

/-- 'laws.FnRetryBy', WHERE WHAT IT READS IS OF BULK AT MOST 1048576: true; the input reads as it did. -/
def fnRetryByUptoRow : OpenClaim := { program := "ytmobpfphehmleaa", sum := "9b4f8719b8763139635986277dbadd306169798645312787019c2a682f4e0b34", func := "loop.example/sagaflows/laws.FnRetryBy", spec := "fnRetryBy", apart := false, narrowed := true }
def FnRetryByUptoSaid : Prop := fnRetryByUptoRow.holds Try.pinned (OpenSpec.upto fnRetryBySpec)

/-- 'laws.FnRetryByMore', WHERE WHAT IT READS IS OF BULK AT MOST 1048576: true; the input reads as it did. -/
def fnRetryByMoreUptoRow : OpenClaim := { program := "ytmobpfphehmleaa", sum := "9b4f8719b8763139635986277dbadd306169798645312787019c2a682f4e0b34", func := "loop.example/sagaflows/laws.FnRetryByMore", spec := "fnRetryByMore", apart := false, narrowed := true }
def FnRetryByMoreUptoSaid : Prop := fnRetryByMoreUptoRow.holds Try.pinned (OpenSpec.upto fnRetryByMoreSpec)

end Rows
end Go.Proofs.Ytmobpfphehmleaa
