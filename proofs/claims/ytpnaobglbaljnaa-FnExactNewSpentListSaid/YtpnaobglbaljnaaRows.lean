/-
  No cell of these rows narrows 'for every input' (looked for: loops, veiled, ifaces, maps, wideKeys, modest, calm, conditions, laid).
  DERIVED. THE GIVEN ROWS OF THIS SEAT. 12 by the template 'for every input the law returns true; each argument reads behind the call as it read before'; 0 by the template 'total and deterministic' (their statements: YtpnaobglbaljnaaTotals.lean).
  GIVEN WITH THE SEED: the statements are not yours to turn. If you find one false, say at which input.
  Laid BY PROGRAM, IN A SANDBOX (cutbox-rows.mjs): the forced cells as the released guide's own fill.sh prints them over the translation 9649fc81f81e50b3… (all of the seat's roots in one cut). By AI agents, Wed Nov 11 2026. No macro, syntax, notation, axiom, sorry.
-/
import Derived.Test.YtpnaobglbaljnaaChecked
import GoSem.Claim
import GoSem.ClaimJoined
import GoSem.ClaimMapViews
import Derived.JoinedTies
import Derived.KernelRfl
namespace Go.Proofs.Ytpnaobglbaljnaa
/- THE CELL 'sum', in the pinned program and in every row, IS THE sha256 OF THE DUMP (.gsa) THAT YtpnaobglbaljnaaProg.lean LOADS. Nothing in Lean hashes anything: it is a label: what it is worth is what the hold of that sum in a sandbox is worth. -/
noncomputable def Try.pinned : Pinned := { name := "ytpnaobglbaljnaa", sum := "9649fc81f81e50b3851ed9d87e29a037d9f656907c7e0b5fdd669eb4cc374909", checked := Try.checked }
namespace Rows
def none {H : Type} : Left H := { results := [], args := [] }

/-- 'laws.FnExactIsGroupElement': WHATEVER THE INPUT: true; the input reads as it did. -/
def fnExactIsGroupElementSpec : ChangeSpec := { name := "fnExactIsGroupElement", fn := fun _ => fun
  | [d] => { results := [.lit (.bool true)], args := [d] }
  | _ => none }
def fnExactIsGroupElementRow : OpenClaim := { program := "ytpnaobglbaljnaa", sum := "9649fc81f81e50b3851ed9d87e29a037d9f656907c7e0b5fdd669eb4cc374909", func := "loop.example/g00516/laws.FnExactIsGroupElement", spec := "fnExactIsGroupElement", apart := false }
def FnExactIsGroupElementSaid : Prop := fnExactIsGroupElementRow.holds Try.pinned (OpenSpec.ofChange fnExactIsGroupElementSpec)

/-- ITS FALSE NEIGHBOUR: 'it returns false'. Refute it at one input. -/
def fnExactIsGroupElementWrong : ChangeSpec := { name := "fnExactIsGroupElement", fn := fun _ => fun
  | [d] => { results := [.lit (.bool false)], args := [d] }
  | _ => none }
def FnExactIsGroupElementWrongFalsely : Prop := fnExactIsGroupElementRow.holds Try.pinned (OpenSpec.ofChange fnExactIsGroupElementWrong)

/-- 'laws.FnExactInverseExponent': WHATEVER THE INPUT: true; the input reads as it did. -/
def fnExactInverseExponentSpec : ChangeSpec := { name := "fnExactInverseExponent", fn := fun _ => fun
  | [d] => { results := [.lit (.bool true)], args := [d] }
  | _ => none }
def fnExactInverseExponentRow : OpenClaim := { program := "ytpnaobglbaljnaa", sum := "9649fc81f81e50b3851ed9d87e29a037d9f656907c7e0b5fdd669eb4cc374909", func := "loop.example/g00516/laws.FnExactInverseExponent", spec := "fnExactInverseExponent", apart := false }
def FnExactInverseExponentSaid : Prop := fnExactInverseExponentRow.holds Try.pinned (OpenSpec.ofChange fnExactInverseExponentSpec)

/-- ITS FALSE NEIGHBOUR: 'it returns false'. Refute it at one input. -/
def fnExactInverseExponentWrong : ChangeSpec := { name := "fnExactInverseExponent", fn := fun _ => fun
  | [d] => { results := [.lit (.bool false)], args := [d] }
  | _ => none }
def FnExactInverseExponentWrongFalsely : Prop := fnExactInverseExponentRow.holds Try.pinned (OpenSpec.ofChange fnExactInverseExponentWrong)

/-- 'laws.FnExactMulGroup': WHATEVER THE INPUT: true; the input reads as it did. -/
def fnExactMulGroupSpec : ChangeSpec := { name := "fnExactMulGroup", fn := fun _ => fun
  | [d1, d2] => { results := [.lit (.bool true)], args := [d1, d2] }
  | _ => none }
def fnExactMulGroupRow : OpenClaim := { program := "ytpnaobglbaljnaa", sum := "9649fc81f81e50b3851ed9d87e29a037d9f656907c7e0b5fdd669eb4cc374909", func := "loop.example/g00516/laws.FnExactMulGroup", spec := "fnExactMulGroup", apart := false }
def FnExactMulGroupSaid : Prop := fnExactMulGroupRow.holds Try.pinned (OpenSpec.ofChange fnExactMulGroupSpec)

/-- ITS FALSE NEIGHBOUR: 'it returns false'. Refute it at one input. -/
def fnExactMulGroupWrong : ChangeSpec := { name := "fnExactMulGroup", fn := fun _ => fun
  | [d1, d2] => { results := [.lit (.bool false)], args := [d1, d2] }
  | _ => none }
def FnExactMulGroupWrongFalsely : Prop := fnExactMulGroupRow.holds Try.pinned (OpenSpec.ofChange fnExactMulGroupWrong)

/-- 'laws.FnExactPowGroup': WHATEVER THE INPUT: true; the input reads as it did. -/
def fnExactPowGroupSpec : ChangeSpec := { name := "fnExactPowGroup", fn := fun _ => fun
  | [d1, d2] => { results := [.lit (.bool true)], args := [d1, d2] }
  | _ => none }
def fnExactPowGroupRow : OpenClaim := { program := "ytpnaobglbaljnaa", sum := "9649fc81f81e50b3851ed9d87e29a037d9f656907c7e0b5fdd669eb4cc374909", func := "loop.example/g00516/laws.FnExactPowGroup", spec := "fnExactPowGroup", apart := false }
def FnExactPowGroupSaid : Prop := fnExactPowGroupRow.holds Try.pinned (OpenSpec.ofChange fnExactPowGroupSpec)

/-- ITS FALSE NEIGHBOUR: 'it returns false'. Refute it at one input. -/
def fnExactPowGroupWrong : ChangeSpec := { name := "fnExactPowGroup", fn := fun _ => fun
  | [d1, d2] => { results := [.lit (.bool false)], args := [d1, d2] }
  | _ => none }
def FnExactPowGroupWrongFalsely : Prop := fnExactPowGroupRow.holds Try.pinned (OpenSpec.ofChange fnExactPowGroupWrong)

/-- 'laws.FnExactDiscreteLog': WHATEVER THE INPUT: true; the input reads as it did. -/
def fnExactDiscreteLogSpec : ChangeSpec := { name := "fnExactDiscreteLog", fn := fun _ => fun
  | [d1, d2] => { results := [.lit (.bool true)], args := [d1, d2] }
  | _ => none }
def fnExactDiscreteLogRow : OpenClaim := { program := "ytpnaobglbaljnaa", sum := "9649fc81f81e50b3851ed9d87e29a037d9f656907c7e0b5fdd669eb4cc374909", func := "loop.example/g00516/laws.FnExactDiscreteLog", spec := "fnExactDiscreteLog", apart := false }
def FnExactDiscreteLogSaid : Prop := fnExactDiscreteLogRow.holds Try.pinned (OpenSpec.ofChange fnExactDiscreteLogSpec)

/-- ITS FALSE NEIGHBOUR: 'it returns false'. Refute it at one input. -/
def fnExactDiscreteLogWrong : ChangeSpec := { name := "fnExactDiscreteLog", fn := fun _ => fun
  | [d1, d2] => { results := [.lit (.bool false)], args := [d1, d2] }
  | _ => none }
def FnExactDiscreteLogWrongFalsely : Prop := fnExactDiscreteLogRow.holds Try.pinned (OpenSpec.ofChange fnExactDiscreteLogWrong)

/-- 'laws.FnExactIssuerKey': WHATEVER THE INPUT: true; the input reads as it did. -/
def fnExactIssuerKeySpec : ChangeSpec := { name := "fnExactIssuerKey", fn := fun _ => fun
  | [d] => { results := [.lit (.bool true)], args := [d] }
  | _ => none }
def fnExactIssuerKeyRow : OpenClaim := { program := "ytpnaobglbaljnaa", sum := "9649fc81f81e50b3851ed9d87e29a037d9f656907c7e0b5fdd669eb4cc374909", func := "loop.example/g00516/laws.FnExactIssuerKey", spec := "fnExactIssuerKey", apart := false }
def FnExactIssuerKeySaid : Prop := fnExactIssuerKeyRow.holds Try.pinned (OpenSpec.ofChange fnExactIssuerKeySpec)

/-- ITS FALSE NEIGHBOUR: 'it returns false'. Refute it at one input. -/
def fnExactIssuerKeyWrong : ChangeSpec := { name := "fnExactIssuerKey", fn := fun _ => fun
  | [d] => { results := [.lit (.bool false)], args := [d] }
  | _ => none }
def FnExactIssuerKeyWrongFalsely : Prop := fnExactIssuerKeyRow.holds Try.pinned (OpenSpec.ofChange fnExactIssuerKeyWrong)

/-- 'laws.FnExactNewSpentList': WHATEVER THE INPUT: true; the input reads as it did. -/
def fnExactNewSpentListSpec : ChangeSpec := { name := "fnExactNewSpentList", fn := fun _ => fun
  | [d] => { results := [.lit (.bool true)], args := [d] }
  | _ => none }
def fnExactNewSpentListRow : OpenClaim := { program := "ytpnaobglbaljnaa", sum := "9649fc81f81e50b3851ed9d87e29a037d9f656907c7e0b5fdd669eb4cc374909", func := "loop.example/g00516/laws.FnExactNewSpentList", spec := "fnExactNewSpentList", apart := false }
def FnExactNewSpentListSaid : Prop := fnExactNewSpentListRow.holds Try.pinned (OpenSpec.ofChange fnExactNewSpentListSpec)

/-- ITS FALSE NEIGHBOUR: 'it returns false'. Refute it at one input. -/
def fnExactNewSpentListWrong : ChangeSpec := { name := "fnExactNewSpentList", fn := fun _ => fun
  | [d] => { results := [.lit (.bool false)], args := [d] }
  | _ => none }
def FnExactNewSpentListWrongFalsely : Prop := fnExactNewSpentListRow.holds Try.pinned (OpenSpec.ofChange fnExactNewSpentListWrong)

/-- 'laws.FnExactIsValidIdentity': WHATEVER THE INPUT: true; the input reads as it did. -/
def fnExactIsValidIdentitySpec : ChangeSpec := { name := "fnExactIsValidIdentity", fn := fun _ => fun
  | [d] => { results := [.lit (.bool true)], args := [d] }
  | _ => none }
def fnExactIsValidIdentityRow : OpenClaim := { program := "ytpnaobglbaljnaa", sum := "9649fc81f81e50b3851ed9d87e29a037d9f656907c7e0b5fdd669eb4cc374909", func := "loop.example/g00516/laws.FnExactIsValidIdentity", spec := "fnExactIsValidIdentity", apart := false }
def FnExactIsValidIdentitySaid : Prop := fnExactIsValidIdentityRow.holds Try.pinned (OpenSpec.ofChange fnExactIsValidIdentitySpec)

/-- ITS FALSE NEIGHBOUR: 'it returns false'. Refute it at one input. -/
def fnExactIsValidIdentityWrong : ChangeSpec := { name := "fnExactIsValidIdentity", fn := fun _ => fun
  | [d] => { results := [.lit (.bool false)], args := [d] }
  | _ => none }
def FnExactIsValidIdentityWrongFalsely : Prop := fnExactIsValidIdentityRow.holds Try.pinned (OpenSpec.ofChange fnExactIsValidIdentityWrong)

/-- 'laws.FnExactEpochSecret': WHATEVER THE INPUT: true; the input reads as it did. -/
def fnExactEpochSecretSpec : ChangeSpec := { name := "fnExactEpochSecret", fn := fun _ => fun
  | [d1, d2] => { results := [.lit (.bool true)], args := [d1, d2] }
  | _ => none }
def fnExactEpochSecretRow : OpenClaim := { program := "ytpnaobglbaljnaa", sum := "9649fc81f81e50b3851ed9d87e29a037d9f656907c7e0b5fdd669eb4cc374909", func := "loop.example/g00516/laws.FnExactEpochSecret", spec := "fnExactEpochSecret", apart := false }
def FnExactEpochSecretSaid : Prop := fnExactEpochSecretRow.holds Try.pinned (OpenSpec.ofChange fnExactEpochSecretSpec)

/-- ITS FALSE NEIGHBOUR: 'it returns false'. Refute it at one input. -/
def fnExactEpochSecretWrong : ChangeSpec := { name := "fnExactEpochSecret", fn := fun _ => fun
  | [d1, d2] => { results := [.lit (.bool false)], args := [d1, d2] }
  | _ => none }
def FnExactEpochSecretWrongFalsely : Prop := fnExactEpochSecretRow.holds Try.pinned (OpenSpec.ofChange fnExactEpochSecretWrong)

/-- 'laws.FnExactNewIdentity': WHATEVER THE INPUT: true; the input reads as it did. -/
def fnExactNewIdentitySpec : ChangeSpec := { name := "fnExactNewIdentity", fn := fun _ => fun
  | [d] => { results := [.lit (.bool true)], args := [d] }
  | _ => none }
def fnExactNewIdentityRow : OpenClaim := { program := "ytpnaobglbaljnaa", sum := "9649fc81f81e50b3851ed9d87e29a037d9f656907c7e0b5fdd669eb4cc374909", func := "loop.example/g00516/laws.FnExactNewIdentity", spec := "fnExactNewIdentity", apart := false }
def FnExactNewIdentitySaid : Prop := fnExactNewIdentityRow.holds Try.pinned (OpenSpec.ofChange fnExactNewIdentitySpec)

/-- ITS FALSE NEIGHBOUR: 'it returns false'. Refute it at one input. -/
def fnExactNewIdentityWrong : ChangeSpec := { name := "fnExactNewIdentity", fn := fun _ => fun
  | [d] => { results := [.lit (.bool false)], args := [d] }
  | _ => none }
def FnExactNewIdentityWrongFalsely : Prop := fnExactNewIdentityRow.holds Try.pinned (OpenSpec.ofChange fnExactNewIdentityWrong)

/-- 'laws.FnExactSafetyNumber': WHATEVER THE INPUT: true; the input reads as it did. -/
def fnExactSafetyNumberSpec : ChangeSpec := { name := "fnExactSafetyNumber", fn := fun _ => fun
  | [d1, d2] => { results := [.lit (.bool true)], args := [d1, d2] }
  | _ => none }
def fnExactSafetyNumberRow : OpenClaim := { program := "ytpnaobglbaljnaa", sum := "9649fc81f81e50b3851ed9d87e29a037d9f656907c7e0b5fdd669eb4cc374909", func := "loop.example/g00516/laws.FnExactSafetyNumber", spec := "fnExactSafetyNumber", apart := false }
def FnExactSafetyNumberSaid : Prop := fnExactSafetyNumberRow.holds Try.pinned (OpenSpec.ofChange fnExactSafetyNumberSpec)

/-- ITS FALSE NEIGHBOUR: 'it returns false'. Refute it at one input. -/
def fnExactSafetyNumberWrong : ChangeSpec := { name := "fnExactSafetyNumber", fn := fun _ => fun
  | [d1, d2] => { results := [.lit (.bool false)], args := [d1, d2] }
  | _ => none }
def FnExactSafetyNumberWrongFalsely : Prop := fnExactSafetyNumberRow.holds Try.pinned (OpenSpec.ofChange fnExactSafetyNumberWrong)

/-- 'laws.FnExactHashToGroup': WHATEVER THE INPUT: true; the input reads as it did. -/
def fnExactHashToGroupSpec : ChangeSpec := { name := "fnExactHashToGroup", fn := fun _ => fun
  | [d1, d2] => { results := [.lit (.bool true)], args := [d1, d2] }
  | _ => none }
def fnExactHashToGroupRow : OpenClaim := { program := "ytpnaobglbaljnaa", sum := "9649fc81f81e50b3851ed9d87e29a037d9f656907c7e0b5fdd669eb4cc374909", func := "loop.example/g00516/laws.FnExactHashToGroup", spec := "fnExactHashToGroup", apart := false }
def FnExactHashToGroupSaid : Prop := fnExactHashToGroupRow.holds Try.pinned (OpenSpec.ofChange fnExactHashToGroupSpec)

/-- ITS FALSE NEIGHBOUR: 'it returns false'. Refute it at one input. -/
def fnExactHashToGroupWrong : ChangeSpec := { name := "fnExactHashToGroup", fn := fun _ => fun
  | [d1, d2] => { results := [.lit (.bool false)], args := [d1, d2] }
  | _ => none }
def FnExactHashToGroupWrongFalsely : Prop := fnExactHashToGroupRow.holds Try.pinned (OpenSpec.ofChange fnExactHashToGroupWrong)

/- THE SECOND FORM. 'bulk': how many values and letters a reading holds, each counted each time it is reached (what is shared counts as often as it is met; a slice's spare places count too). A statement '..UptoSaid' is the law's where the arguments, and the package variables that the reading takes, are together of bulk at most 1048576: NARROWER than '..Said'. Prove '..Said' where nothing that the law and all that it calls make is longer than what came in: it says more and counts as full. Else prove '..UptoSaid'. A law counts once. -/
mutual
def uptoBulk {H : Type} : DataW H → Nat
  | .lit (.string bytes) => bytes.length + 1
  | .lit _ => 1
  | .nil => 1
  | .ptr d => uptoBulk d + 1
  | .slice elems spare => uptoBulkAll elems + uptoBulkAll spare + 1
  | .agg parts => uptoBulkAll parts + 1
  | .iface _ d => uptoBulk d + 1
  | .map entries => uptoBulkEntries entries + 1
  | .held _ => 1
def uptoBulkAll {H : Type} : List (DataW H) → Nat
  | [] => 0
  | d :: r => uptoBulk d + uptoBulkAll r
def uptoBulkEntries {H : Type} : List (Lit × DataW H) → Nat
  | [] => 0
  | x :: r => uptoBulkEntry x + uptoBulkEntries r
def uptoBulkEntry {H : Type} : Lit × DataW H → Nat
  | (.string bytes, d) => bytes.length + uptoBulk d + 1
  | (_, d) => uptoBulk d + 1
 end
def uptoSmall : (H : Type) → List (DataW H) → Bool := fun _ ds => decide (uptoBulkAll ds ≤ 1048576)
def OpenSpec.upto (s : _root_.Go.ChangeSpec) : _root_.Go.OpenSpec := { _root_.Go.OpenSpec.ofChange s with cond := some uptoSmall }

/-- 'laws.FnExactIsGroupElement', WHERE WHAT IT READS IS OF BULK AT MOST 1048576: true; the input reads as it did. -/
def fnExactIsGroupElementUptoRow : OpenClaim := { program := "ytpnaobglbaljnaa", sum := "9649fc81f81e50b3851ed9d87e29a037d9f656907c7e0b5fdd669eb4cc374909", func := "loop.example/g00516/laws.FnExactIsGroupElement", spec := "fnExactIsGroupElement", apart := false, narrowed := true }
def FnExactIsGroupElementUptoSaid : Prop := fnExactIsGroupElementUptoRow.holds Try.pinned (OpenSpec.upto fnExactIsGroupElementSpec)

/-- 'laws.FnExactInverseExponent', WHERE WHAT IT READS IS OF BULK AT MOST 1048576: true; the input reads as it did. -/
def fnExactInverseExponentUptoRow : OpenClaim := { program := "ytpnaobglbaljnaa", sum := "9649fc81f81e50b3851ed9d87e29a037d9f656907c7e0b5fdd669eb4cc374909", func := "loop.example/g00516/laws.FnExactInverseExponent", spec := "fnExactInverseExponent", apart := false, narrowed := true }
def FnExactInverseExponentUptoSaid : Prop := fnExactInverseExponentUptoRow.holds Try.pinned (OpenSpec.upto fnExactInverseExponentSpec)

/-- 'laws.FnExactMulGroup', WHERE WHAT IT READS IS OF BULK AT MOST 1048576: true; the input reads as it did. -/
def fnExactMulGroupUptoRow : OpenClaim := { program := "ytpnaobglbaljnaa", sum := "9649fc81f81e50b3851ed9d87e29a037d9f656907c7e0b5fdd669eb4cc374909", func := "loop.example/g00516/laws.FnExactMulGroup", spec := "fnExactMulGroup", apart := false, narrowed := true }
def FnExactMulGroupUptoSaid : Prop := fnExactMulGroupUptoRow.holds Try.pinned (OpenSpec.upto fnExactMulGroupSpec)

/-- 'laws.FnExactPowGroup', WHERE WHAT IT READS IS OF BULK AT MOST 1048576: true; the input reads as it did. -/
def fnExactPowGroupUptoRow : OpenClaim := { program := "ytpnaobglbaljnaa", sum := "9649fc81f81e50b3851ed9d87e29a037d9f656907c7e0b5fdd669eb4cc374909", func := "loop.example/g00516/laws.FnExactPowGroup", spec := "fnExactPowGroup", apart := false, narrowed := true }
def FnExactPowGroupUptoSaid : Prop := fnExactPowGroupUptoRow.holds Try.pinned (OpenSpec.upto fnExactPowGroupSpec)

/-- 'laws.FnExactDiscreteLog', WHERE WHAT IT READS IS OF BULK AT MOST 1048576: true; the input reads as it did. -/
def fnExactDiscreteLogUptoRow : OpenClaim := { program := "ytpnaobglbaljnaa", sum := "9649fc81f81e50b3851ed9d87e29a037d9f656907c7e0b5fdd669eb4cc374909", func := "loop.example/g00516/laws.FnExactDiscreteLog", spec := "fnExactDiscreteLog", apart := false, narrowed := true }
def FnExactDiscreteLogUptoSaid : Prop := fnExactDiscreteLogUptoRow.holds Try.pinned (OpenSpec.upto fnExactDiscreteLogSpec)

/-- 'laws.FnExactIssuerKey', WHERE WHAT IT READS IS OF BULK AT MOST 1048576: true; the input reads as it did. -/
def fnExactIssuerKeyUptoRow : OpenClaim := { program := "ytpnaobglbaljnaa", sum := "9649fc81f81e50b3851ed9d87e29a037d9f656907c7e0b5fdd669eb4cc374909", func := "loop.example/g00516/laws.FnExactIssuerKey", spec := "fnExactIssuerKey", apart := false, narrowed := true }
def FnExactIssuerKeyUptoSaid : Prop := fnExactIssuerKeyUptoRow.holds Try.pinned (OpenSpec.upto fnExactIssuerKeySpec)

/-- 'laws.FnExactNewSpentList', WHERE WHAT IT READS IS OF BULK AT MOST 1048576: true; the input reads as it did. -/
def fnExactNewSpentListUptoRow : OpenClaim := { program := "ytpnaobglbaljnaa", sum := "9649fc81f81e50b3851ed9d87e29a037d9f656907c7e0b5fdd669eb4cc374909", func := "loop.example/g00516/laws.FnExactNewSpentList", spec := "fnExactNewSpentList", apart := false, narrowed := true }
def FnExactNewSpentListUptoSaid : Prop := fnExactNewSpentListUptoRow.holds Try.pinned (OpenSpec.upto fnExactNewSpentListSpec)

/-- 'laws.FnExactIsValidIdentity', WHERE WHAT IT READS IS OF BULK AT MOST 1048576: true; the input reads as it did. -/
def fnExactIsValidIdentityUptoRow : OpenClaim := { program := "ytpnaobglbaljnaa", sum := "9649fc81f81e50b3851ed9d87e29a037d9f656907c7e0b5fdd669eb4cc374909", func := "loop.example/g00516/laws.FnExactIsValidIdentity", spec := "fnExactIsValidIdentity", apart := false, narrowed := true }
def FnExactIsValidIdentityUptoSaid : Prop := fnExactIsValidIdentityUptoRow.holds Try.pinned (OpenSpec.upto fnExactIsValidIdentitySpec)

/-- 'laws.FnExactEpochSecret', WHERE WHAT IT READS IS OF BULK AT MOST 1048576: true; the input reads as it did. -/
def fnExactEpochSecretUptoRow : OpenClaim := { program := "ytpnaobglbaljnaa", sum := "9649fc81f81e50b3851ed9d87e29a037d9f656907c7e0b5fdd669eb4cc374909", func := "loop.example/g00516/laws.FnExactEpochSecret", spec := "fnExactEpochSecret", apart := false, narrowed := true }
def FnExactEpochSecretUptoSaid : Prop := fnExactEpochSecretUptoRow.holds Try.pinned (OpenSpec.upto fnExactEpochSecretSpec)

/-- 'laws.FnExactNewIdentity', WHERE WHAT IT READS IS OF BULK AT MOST 1048576: true; the input reads as it did. -/
def fnExactNewIdentityUptoRow : OpenClaim := { program := "ytpnaobglbaljnaa", sum := "9649fc81f81e50b3851ed9d87e29a037d9f656907c7e0b5fdd669eb4cc374909", func := "loop.example/g00516/laws.FnExactNewIdentity", spec := "fnExactNewIdentity", apart := false, narrowed := true }
def FnExactNewIdentityUptoSaid : Prop := fnExactNewIdentityUptoRow.holds Try.pinned (OpenSpec.upto fnExactNewIdentitySpec)

/-- 'laws.FnExactSafetyNumber', WHERE WHAT IT READS IS OF BULK AT MOST 1048576: true; the input reads as it did. -/
def fnExactSafetyNumberUptoRow : OpenClaim := { program := "ytpnaobglbaljnaa", sum := "9649fc81f81e50b3851ed9d87e29a037d9f656907c7e0b5fdd669eb4cc374909", func := "loop.example/g00516/laws.FnExactSafetyNumber", spec := "fnExactSafetyNumber", apart := false, narrowed := true }
def FnExactSafetyNumberUptoSaid : Prop := fnExactSafetyNumberUptoRow.holds Try.pinned (OpenSpec.upto fnExactSafetyNumberSpec)

/-- 'laws.FnExactHashToGroup', WHERE WHAT IT READS IS OF BULK AT MOST 1048576: true; the input reads as it did. -/
def fnExactHashToGroupUptoRow : OpenClaim := { program := "ytpnaobglbaljnaa", sum := "9649fc81f81e50b3851ed9d87e29a037d9f656907c7e0b5fdd669eb4cc374909", func := "loop.example/g00516/laws.FnExactHashToGroup", spec := "fnExactHashToGroup", apart := false, narrowed := true }
def FnExactHashToGroupUptoSaid : Prop := fnExactHashToGroupUptoRow.holds Try.pinned (OpenSpec.upto fnExactHashToGroupSpec)

end Rows
end Go.Proofs.Ytpnaobglbaljnaa
