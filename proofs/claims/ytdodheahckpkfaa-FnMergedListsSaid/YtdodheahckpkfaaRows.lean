/-
  No cell of these rows narrows 'for every input' (looked for: loops, veiled, ifaces, maps, wideKeys, modest, calm, conditions, laid).
  DERIVED. THE GIVEN ROWS OF THIS SEAT. 12 by the template 'for every input the law returns true; each argument reads behind the call as it read before'; 0 by the template 'total and deterministic' (their statements: YtdodheahckpkfaaTotals.lean).
  GIVEN WITH THE SEED: the statements are not yours to turn. If you find one false, say at which input.
  Laid BY PROGRAM, IN A SANDBOX (cutbox-rows.mjs): the forced cells as the released guide's own fill.sh prints them over the translation 98aa571d2a2e3b8f… (all of the seat's roots in one cut). By AI agents, Wed Nov 11 2026. No macro, syntax, notation, axiom, sorry.
-/
import Derived.Test.YtdodheahckpkfaaChecked
import GoSem.Claim
import GoSem.ClaimJoined
import GoSem.ClaimMapViews
import Derived.JoinedTies
import Derived.KernelRfl
namespace Go.Proofs.Ytdodheahckpkfaa
/- THE CELL 'sum', in the pinned program and in every row, IS THE sha256 OF THE DUMP (.gsa) THAT YtdodheahckpkfaaProg.lean LOADS. Nothing in Lean hashes anything: it is a label: what it is worth is what the hold of that sum in a sandbox is worth. -/
noncomputable def Try.pinned : Pinned := { name := "ytdodheahckpkfaa", sum := "98aa571d2a2e3b8f5bad8a5943c63268a6cdb4f959e0e515b12ddf0ec69f1f2c", checked := Try.checked }
namespace Rows
def none {H : Type} : Left H := { results := [], args := [] }

/-- 'laws.FnExactIsSpent': WHATEVER THE INPUT: true; the input reads as it did. -/
def fnExactIsSpentSpec : ChangeSpec := { name := "fnExactIsSpent", fn := fun _ => fun
  | [d1, d2] => { results := [.lit (.bool true)], args := [d1, d2] }
  | _ => none }
def fnExactIsSpentRow : OpenClaim := { program := "ytdodheahckpkfaa", sum := "98aa571d2a2e3b8f5bad8a5943c63268a6cdb4f959e0e515b12ddf0ec69f1f2c", func := "loop.example/g00516/laws.FnExactIsSpent", spec := "fnExactIsSpent", apart := false }
def FnExactIsSpentSaid : Prop := fnExactIsSpentRow.holds Try.pinned (OpenSpec.ofChange fnExactIsSpentSpec)

/-- ITS FALSE NEIGHBOUR: 'it returns false'. Refute it at one input. -/
def fnExactIsSpentWrong : ChangeSpec := { name := "fnExactIsSpent", fn := fun _ => fun
  | [d1, d2] => { results := [.lit (.bool false)], args := [d1, d2] }
  | _ => none }
def FnExactIsSpentWrongFalsely : Prop := fnExactIsSpentRow.holds Try.pinned (OpenSpec.ofChange fnExactIsSpentWrong)

/-- 'laws.FnExactIsValidSpentList': WHATEVER THE INPUT: true; the input reads as it did. -/
def fnExactIsValidSpentListSpec : ChangeSpec := { name := "fnExactIsValidSpentList", fn := fun _ => fun
  | [d] => { results := [.lit (.bool true)], args := [d] }
  | _ => none }
def fnExactIsValidSpentListRow : OpenClaim := { program := "ytdodheahckpkfaa", sum := "98aa571d2a2e3b8f5bad8a5943c63268a6cdb4f959e0e515b12ddf0ec69f1f2c", func := "loop.example/g00516/laws.FnExactIsValidSpentList", spec := "fnExactIsValidSpentList", apart := false }
def FnExactIsValidSpentListSaid : Prop := fnExactIsValidSpentListRow.holds Try.pinned (OpenSpec.ofChange fnExactIsValidSpentListSpec)

/-- ITS FALSE NEIGHBOUR: 'it returns false'. Refute it at one input. -/
def fnExactIsValidSpentListWrong : ChangeSpec := { name := "fnExactIsValidSpentList", fn := fun _ => fun
  | [d] => { results := [.lit (.bool false)], args := [d] }
  | _ => none }
def FnExactIsValidSpentListWrongFalsely : Prop := fnExactIsValidSpentListRow.holds Try.pinned (OpenSpec.ofChange fnExactIsValidSpentListWrong)

/-- 'laws.FnExactEqualSpentLists': WHATEVER THE INPUT: true; the input reads as it did. -/
def fnExactEqualSpentListsSpec : ChangeSpec := { name := "fnExactEqualSpentLists", fn := fun _ => fun
  | [d1, d2] => { results := [.lit (.bool true)], args := [d1, d2] }
  | _ => none }
def fnExactEqualSpentListsRow : OpenClaim := { program := "ytdodheahckpkfaa", sum := "98aa571d2a2e3b8f5bad8a5943c63268a6cdb4f959e0e515b12ddf0ec69f1f2c", func := "loop.example/g00516/laws.FnExactEqualSpentLists", spec := "fnExactEqualSpentLists", apart := false }
def FnExactEqualSpentListsSaid : Prop := fnExactEqualSpentListsRow.holds Try.pinned (OpenSpec.ofChange fnExactEqualSpentListsSpec)

/-- ITS FALSE NEIGHBOUR: 'it returns false'. Refute it at one input. -/
def fnExactEqualSpentListsWrong : ChangeSpec := { name := "fnExactEqualSpentLists", fn := fun _ => fun
  | [d1, d2] => { results := [.lit (.bool false)], args := [d1, d2] }
  | _ => none }
def FnExactEqualSpentListsWrongFalsely : Prop := fnExactEqualSpentListsRow.holds Try.pinned (OpenSpec.ofChange fnExactEqualSpentListsWrong)

/-- 'laws.FnExactBudgetLeft': WHATEVER THE INPUT: true; the input reads as it did. -/
def fnExactBudgetLeftSpec : ChangeSpec := { name := "fnExactBudgetLeft", fn := fun _ => fun
  | [d1, d2] => { results := [.lit (.bool true)], args := [d1, d2] }
  | _ => none }
def fnExactBudgetLeftRow : OpenClaim := { program := "ytdodheahckpkfaa", sum := "98aa571d2a2e3b8f5bad8a5943c63268a6cdb4f959e0e515b12ddf0ec69f1f2c", func := "loop.example/g00516/laws.FnExactBudgetLeft", spec := "fnExactBudgetLeft", apart := false }
def FnExactBudgetLeftSaid : Prop := fnExactBudgetLeftRow.holds Try.pinned (OpenSpec.ofChange fnExactBudgetLeftSpec)

/-- ITS FALSE NEIGHBOUR: 'it returns false'. Refute it at one input. -/
def fnExactBudgetLeftWrong : ChangeSpec := { name := "fnExactBudgetLeft", fn := fun _ => fun
  | [d1, d2] => { results := [.lit (.bool false)], args := [d1, d2] }
  | _ => none }
def FnExactBudgetLeftWrongFalsely : Prop := fnExactBudgetLeftRow.holds Try.pinned (OpenSpec.ofChange fnExactBudgetLeftWrong)

/-- 'laws.FnExactSpendToken': WHATEVER THE INPUT: true; the input reads as it did. -/
def fnExactSpendTokenSpec : ChangeSpec := { name := "fnExactSpendToken", fn := fun _ => fun
  | [d1, d2, d3] => { results := [.lit (.bool true)], args := [d1, d2, d3] }
  | _ => none }
def fnExactSpendTokenRow : OpenClaim := { program := "ytdodheahckpkfaa", sum := "98aa571d2a2e3b8f5bad8a5943c63268a6cdb4f959e0e515b12ddf0ec69f1f2c", func := "loop.example/g00516/laws.FnExactSpendToken", spec := "fnExactSpendToken", inPlace := ["slices.overlaps[int]"], apart := false }
def FnExactSpendTokenSaid : Prop := fnExactSpendTokenRow.holds Try.pinned (OpenSpec.ofChange fnExactSpendTokenSpec)

/-- ITS FALSE NEIGHBOUR: 'it returns false'. Refute it at one input. -/
def fnExactSpendTokenWrong : ChangeSpec := { name := "fnExactSpendToken", fn := fun _ => fun
  | [d1, d2, d3] => { results := [.lit (.bool false)], args := [d1, d2, d3] }
  | _ => none }
def FnExactSpendTokenWrongFalsely : Prop := fnExactSpendTokenRow.holds Try.pinned (OpenSpec.ofChange fnExactSpendTokenWrong)

/-- 'laws.FnExactMergeSpent': WHATEVER THE INPUT: true; the input reads as it did. -/
def fnExactMergeSpentSpec : ChangeSpec := { name := "fnExactMergeSpent", fn := fun _ => fun
  | [d1, d2] => { results := [.lit (.bool true)], args := [d1, d2] }
  | _ => none }
def fnExactMergeSpentRow : OpenClaim := { program := "ytdodheahckpkfaa", sum := "98aa571d2a2e3b8f5bad8a5943c63268a6cdb4f959e0e515b12ddf0ec69f1f2c", func := "loop.example/g00516/laws.FnExactMergeSpent", spec := "fnExactMergeSpent", inPlace := ["slices.overlaps[int]"], apart := false }
def FnExactMergeSpentSaid : Prop := fnExactMergeSpentRow.holds Try.pinned (OpenSpec.ofChange fnExactMergeSpentSpec)

/-- ITS FALSE NEIGHBOUR: 'it returns false'. Refute it at one input. -/
def fnExactMergeSpentWrong : ChangeSpec := { name := "fnExactMergeSpent", fn := fun _ => fun
  | [d1, d2] => { results := [.lit (.bool false)], args := [d1, d2] }
  | _ => none }
def FnExactMergeSpentWrongFalsely : Prop := fnExactMergeSpentRow.holds Try.pinned (OpenSpec.ofChange fnExactMergeSpentWrong)

/-- 'laws.FnSpending': WHATEVER THE INPUT: true; the input reads as it did. -/
def fnSpendingSpec : ChangeSpec := { name := "fnSpending", fn := fun _ => fun
  | [d] => { results := [.lit (.bool true)], args := [d] }
  | _ => none }
def fnSpendingRow : OpenClaim := { program := "ytdodheahckpkfaa", sum := "98aa571d2a2e3b8f5bad8a5943c63268a6cdb4f959e0e515b12ddf0ec69f1f2c", func := "loop.example/g00516/laws.FnSpending", spec := "fnSpending", inPlace := ["slices.overlaps[int]"], apart := false }
def FnSpendingSaid : Prop := fnSpendingRow.holds Try.pinned (OpenSpec.ofChange fnSpendingSpec)

/-- ITS FALSE NEIGHBOUR: 'it returns false'. Refute it at one input. -/
def fnSpendingWrong : ChangeSpec := { name := "fnSpending", fn := fun _ => fun
  | [d] => { results := [.lit (.bool false)], args := [d] }
  | _ => none }
def FnSpendingWrongFalsely : Prop := fnSpendingRow.holds Try.pinned (OpenSpec.ofChange fnSpendingWrong)

/-- 'laws.FnMergedLists': WHATEVER THE INPUT: true; the input reads as it did. -/
def fnMergedListsSpec : ChangeSpec := { name := "fnMergedLists", fn := fun _ => fun
  | [d] => { results := [.lit (.bool true)], args := [d] }
  | _ => none }
def fnMergedListsRow : OpenClaim := { program := "ytdodheahckpkfaa", sum := "98aa571d2a2e3b8f5bad8a5943c63268a6cdb4f959e0e515b12ddf0ec69f1f2c", func := "loop.example/g00516/laws.FnMergedLists", spec := "fnMergedLists", inPlace := ["slices.overlaps[int]"], apart := false }
def FnMergedListsSaid : Prop := fnMergedListsRow.holds Try.pinned (OpenSpec.ofChange fnMergedListsSpec)

/-- ITS FALSE NEIGHBOUR: 'it returns false'. Refute it at one input. -/
def fnMergedListsWrong : ChangeSpec := { name := "fnMergedLists", fn := fun _ => fun
  | [d] => { results := [.lit (.bool false)], args := [d] }
  | _ => none }
def FnMergedListsWrongFalsely : Prop := fnMergedListsRow.holds Try.pinned (OpenSpec.ofChange fnMergedListsWrong)

/-- 'laws.FnExactIsValidGroup': WHATEVER THE INPUT: true; the input reads as it did. -/
def fnExactIsValidGroupSpec : ChangeSpec := { name := "fnExactIsValidGroup", fn := fun _ => fun
  | [d] => { results := [.lit (.bool true)], args := [d] }
  | _ => none }
def fnExactIsValidGroupRow : OpenClaim := { program := "ytdodheahckpkfaa", sum := "98aa571d2a2e3b8f5bad8a5943c63268a6cdb4f959e0e515b12ddf0ec69f1f2c", func := "loop.example/g00516/laws.FnExactIsValidGroup", spec := "fnExactIsValidGroup", apart := false }
def FnExactIsValidGroupSaid : Prop := fnExactIsValidGroupRow.holds Try.pinned (OpenSpec.ofChange fnExactIsValidGroupSpec)

/-- ITS FALSE NEIGHBOUR: 'it returns false'. Refute it at one input. -/
def fnExactIsValidGroupWrong : ChangeSpec := { name := "fnExactIsValidGroup", fn := fun _ => fun
  | [d] => { results := [.lit (.bool false)], args := [d] }
  | _ => none }
def FnExactIsValidGroupWrongFalsely : Prop := fnExactIsValidGroupRow.holds Try.pinned (OpenSpec.ofChange fnExactIsValidGroupWrong)

/-- 'laws.FnExactNewRatchet': WHATEVER THE INPUT: true; the input reads as it did. -/
def fnExactNewRatchetSpec : ChangeSpec := { name := "fnExactNewRatchet", fn := fun _ => fun
  | [d] => { results := [.lit (.bool true)], args := [d] }
  | _ => none }
def fnExactNewRatchetRow : OpenClaim := { program := "ytdodheahckpkfaa", sum := "98aa571d2a2e3b8f5bad8a5943c63268a6cdb4f959e0e515b12ddf0ec69f1f2c", func := "loop.example/g00516/laws.FnExactNewRatchet", spec := "fnExactNewRatchet", apart := false }
def FnExactNewRatchetSaid : Prop := fnExactNewRatchetRow.holds Try.pinned (OpenSpec.ofChange fnExactNewRatchetSpec)

/-- ITS FALSE NEIGHBOUR: 'it returns false'. Refute it at one input. -/
def fnExactNewRatchetWrong : ChangeSpec := { name := "fnExactNewRatchet", fn := fun _ => fun
  | [d] => { results := [.lit (.bool false)], args := [d] }
  | _ => none }
def FnExactNewRatchetWrongFalsely : Prop := fnExactNewRatchetRow.holds Try.pinned (OpenSpec.ofChange fnExactNewRatchetWrong)

/-- 'laws.FnExactIsValidRatchet': WHATEVER THE INPUT: true; the input reads as it did. -/
def fnExactIsValidRatchetSpec : ChangeSpec := { name := "fnExactIsValidRatchet", fn := fun _ => fun
  | [d] => { results := [.lit (.bool true)], args := [d] }
  | _ => none }
def fnExactIsValidRatchetRow : OpenClaim := { program := "ytdodheahckpkfaa", sum := "98aa571d2a2e3b8f5bad8a5943c63268a6cdb4f959e0e515b12ddf0ec69f1f2c", func := "loop.example/g00516/laws.FnExactIsValidRatchet", spec := "fnExactIsValidRatchet", apart := false }
def FnExactIsValidRatchetSaid : Prop := fnExactIsValidRatchetRow.holds Try.pinned (OpenSpec.ofChange fnExactIsValidRatchetSpec)

/-- ITS FALSE NEIGHBOUR: 'it returns false'. Refute it at one input. -/
def fnExactIsValidRatchetWrong : ChangeSpec := { name := "fnExactIsValidRatchet", fn := fun _ => fun
  | [d] => { results := [.lit (.bool false)], args := [d] }
  | _ => none }
def FnExactIsValidRatchetWrongFalsely : Prop := fnExactIsValidRatchetRow.holds Try.pinned (OpenSpec.ofChange fnExactIsValidRatchetWrong)

/-- 'laws.FnExactEqualRatchets': WHATEVER THE INPUT: true; the input reads as it did. -/
def fnExactEqualRatchetsSpec : ChangeSpec := { name := "fnExactEqualRatchets", fn := fun _ => fun
  | [d1, d2] => { results := [.lit (.bool true)], args := [d1, d2] }
  | _ => none }
def fnExactEqualRatchetsRow : OpenClaim := { program := "ytdodheahckpkfaa", sum := "98aa571d2a2e3b8f5bad8a5943c63268a6cdb4f959e0e515b12ddf0ec69f1f2c", func := "loop.example/g00516/laws.FnExactEqualRatchets", spec := "fnExactEqualRatchets", apart := false }
def FnExactEqualRatchetsSaid : Prop := fnExactEqualRatchetsRow.holds Try.pinned (OpenSpec.ofChange fnExactEqualRatchetsSpec)

/-- ITS FALSE NEIGHBOUR: 'it returns false'. Refute it at one input. -/
def fnExactEqualRatchetsWrong : ChangeSpec := { name := "fnExactEqualRatchets", fn := fun _ => fun
  | [d1, d2] => { results := [.lit (.bool false)], args := [d1, d2] }
  | _ => none }
def FnExactEqualRatchetsWrongFalsely : Prop := fnExactEqualRatchetsRow.holds Try.pinned (OpenSpec.ofChange fnExactEqualRatchetsWrong)

/- THE SECOND FORM. 'bulk': how many values and letters a reading holds, each counted each time it is reached (what is shared counts as often as it is met; a slice's spare places count too). A statement '..UptoSaid' is the law's where the arguments, and the package variables that the reading takes, are together of bulk at most 1048576: NARROWER than '..Said'. Prove '..Said' where nothing that the law and all that it calls make is longer than what came in: it says more and counts as full. Else prove '..UptoSaid'. A law counts once. -/
mutual
def uptoBulk {H : Type} : DataW H → Nat
  | .lit (.string bytes) => bytes.length + 1
  | .lit _ => 1
  | .nil => 1
  | .ptr d => uptoBulk d + 1
  | .slice elems spare => uptoBulkAll elems + uptoBulkAll spare + 1
  | .agg parts => uptoBulkAll parts + 1
  | .iface _ d => uptoBulk d + 1
  | .map entries => uptoBulkEntries entries + 1
  | .held _ => 1
def uptoBulkAll {H : Type} : List (DataW H) → Nat
  | [] => 0
  | d :: r => uptoBulk d + uptoBulkAll r
def uptoBulkEntries {H : Type} : List (Lit × DataW H) → Nat
  | [] => 0
  | x :: r => uptoBulkEntry x + uptoBulkEntries r
def uptoBulkEntry {H : Type} : Lit × DataW H → Nat
  | (.string bytes, d) => bytes.length + uptoBulk d + 1
  | (_, d) => uptoBulk d + 1
 end
def uptoSmall : (H : Type) → List (DataW H) → Bool := fun _ ds => decide (uptoBulkAll ds ≤ 1048576)
def OpenSpec.upto (s : _root_.Go.ChangeSpec) : _root_.Go.OpenSpec := { _root_.Go.OpenSpec.ofChange s with cond := some uptoSmall }

/-- 'laws.FnExactIsSpent', WHERE WHAT IT READS IS OF BULK AT MOST 1048576: true; the input reads as it did. -/
def fnExactIsSpentUptoRow : OpenClaim := { program := "ytdodheahckpkfaa", sum := "98aa571d2a2e3b8f5bad8a5943c63268a6cdb4f959e0e515b12ddf0ec69f1f2c", func := "loop.example/g00516/laws.FnExactIsSpent", spec := "fnExactIsSpent", apart := false, narrowed := true }
def FnExactIsSpentUptoSaid : Prop := fnExactIsSpentUptoRow.holds Try.pinned (OpenSpec.upto fnExactIsSpentSpec)

/-- 'laws.FnExactIsValidSpentList', WHERE WHAT IT READS IS OF BULK AT MOST 1048576: true; the input reads as it did. -/
def fnExactIsValidSpentListUptoRow : OpenClaim := { program := "ytdodheahckpkfaa", sum := "98aa571d2a2e3b8f5bad8a5943c63268a6cdb4f959e0e515b12ddf0ec69f1f2c", func := "loop.example/g00516/laws.FnExactIsValidSpentList", spec := "fnExactIsValidSpentList", apart := false, narrowed := true }
def FnExactIsValidSpentListUptoSaid : Prop := fnExactIsValidSpentListUptoRow.holds Try.pinned (OpenSpec.upto fnExactIsValidSpentListSpec)

/-- 'laws.FnExactEqualSpentLists', WHERE WHAT IT READS IS OF BULK AT MOST 1048576: true; the input reads as it did. -/
def fnExactEqualSpentListsUptoRow : OpenClaim := { program := "ytdodheahckpkfaa", sum := "98aa571d2a2e3b8f5bad8a5943c63268a6cdb4f959e0e515b12ddf0ec69f1f2c", func := "loop.example/g00516/laws.FnExactEqualSpentLists", spec := "fnExactEqualSpentLists", apart := false, narrowed := true }
def FnExactEqualSpentListsUptoSaid : Prop := fnExactEqualSpentListsUptoRow.holds Try.pinned (OpenSpec.upto fnExactEqualSpentListsSpec)

/-- 'laws.FnExactBudgetLeft', WHERE WHAT IT READS IS OF BULK AT MOST 1048576: true; the input reads as it did. -/
def fnExactBudgetLeftUptoRow : OpenClaim := { program := "ytdodheahckpkfaa", sum := "98aa571d2a2e3b8f5bad8a5943c63268a6cdb4f959e0e515b12ddf0ec69f1f2c", func := "loop.example/g00516/laws.FnExactBudgetLeft", spec := "fnExactBudgetLeft", apart := false, narrowed := true }
def FnExactBudgetLeftUptoSaid : Prop := fnExactBudgetLeftUptoRow.holds Try.pinned (OpenSpec.upto fnExactBudgetLeftSpec)

/-- 'laws.FnExactSpendToken', WHERE WHAT IT READS IS OF BULK AT MOST 1048576: true; the input reads as it did. -/
def fnExactSpendTokenUptoRow : OpenClaim := { program := "ytdodheahckpkfaa", sum := "98aa571d2a2e3b8f5bad8a5943c63268a6cdb4f959e0e515b12ddf0ec69f1f2c", func := "loop.example/g00516/laws.FnExactSpendToken", spec := "fnExactSpendToken", inPlace := ["slices.overlaps[int]"], apart := false, narrowed := true }
def FnExactSpendTokenUptoSaid : Prop := fnExactSpendTokenUptoRow.holds Try.pinned (OpenSpec.upto fnExactSpendTokenSpec)

/-- 'laws.FnExactMergeSpent', WHERE WHAT IT READS IS OF BULK AT MOST 1048576: true; the input reads as it did. -/
def fnExactMergeSpentUptoRow : OpenClaim := { program := "ytdodheahckpkfaa", sum := "98aa571d2a2e3b8f5bad8a5943c63268a6cdb4f959e0e515b12ddf0ec69f1f2c", func := "loop.example/g00516/laws.FnExactMergeSpent", spec := "fnExactMergeSpent", inPlace := ["slices.overlaps[int]"], apart := false, narrowed := true }
def FnExactMergeSpentUptoSaid : Prop := fnExactMergeSpentUptoRow.holds Try.pinned (OpenSpec.upto fnExactMergeSpentSpec)

/-- 'laws.FnSpending', WHERE WHAT IT READS IS OF BULK AT MOST 1048576: true; the input reads as it did. -/
def fnSpendingUptoRow : OpenClaim := { program := "ytdodheahckpkfaa", sum := "98aa571d2a2e3b8f5bad8a5943c63268a6cdb4f959e0e515b12ddf0ec69f1f2c", func := "loop.example/g00516/laws.FnSpending", spec := "fnSpending", inPlace := ["slices.overlaps[int]"], apart := false, narrowed := true }
def FnSpendingUptoSaid : Prop := fnSpendingUptoRow.holds Try.pinned (OpenSpec.upto fnSpendingSpec)

/-- 'laws.FnMergedLists', WHERE WHAT IT READS IS OF BULK AT MOST 1048576: true; the input reads as it did. -/
def fnMergedListsUptoRow : OpenClaim := { program := "ytdodheahckpkfaa", sum := "98aa571d2a2e3b8f5bad8a5943c63268a6cdb4f959e0e515b12ddf0ec69f1f2c", func := "loop.example/g00516/laws.FnMergedLists", spec := "fnMergedLists", inPlace := ["slices.overlaps[int]"], apart := false, narrowed := true }
def FnMergedListsUptoSaid : Prop := fnMergedListsUptoRow.holds Try.pinned (OpenSpec.upto fnMergedListsSpec)

/-- 'laws.FnExactIsValidGroup', WHERE WHAT IT READS IS OF BULK AT MOST 1048576: true; the input reads as it did. -/
def fnExactIsValidGroupUptoRow : OpenClaim := { program := "ytdodheahckpkfaa", sum := "98aa571d2a2e3b8f5bad8a5943c63268a6cdb4f959e0e515b12ddf0ec69f1f2c", func := "loop.example/g00516/laws.FnExactIsValidGroup", spec := "fnExactIsValidGroup", apart := false, narrowed := true }
def FnExactIsValidGroupUptoSaid : Prop := fnExactIsValidGroupUptoRow.holds Try.pinned (OpenSpec.upto fnExactIsValidGroupSpec)

/-- 'laws.FnExactNewRatchet', WHERE WHAT IT READS IS OF BULK AT MOST 1048576: true; the input reads as it did. -/
def fnExactNewRatchetUptoRow : OpenClaim := { program := "ytdodheahckpkfaa", sum := "98aa571d2a2e3b8f5bad8a5943c63268a6cdb4f959e0e515b12ddf0ec69f1f2c", func := "loop.example/g00516/laws.FnExactNewRatchet", spec := "fnExactNewRatchet", apart := false, narrowed := true }
def FnExactNewRatchetUptoSaid : Prop := fnExactNewRatchetUptoRow.holds Try.pinned (OpenSpec.upto fnExactNewRatchetSpec)

/-- 'laws.FnExactIsValidRatchet', WHERE WHAT IT READS IS OF BULK AT MOST 1048576: true; the input reads as it did. -/
def fnExactIsValidRatchetUptoRow : OpenClaim := { program := "ytdodheahckpkfaa", sum := "98aa571d2a2e3b8f5bad8a5943c63268a6cdb4f959e0e515b12ddf0ec69f1f2c", func := "loop.example/g00516/laws.FnExactIsValidRatchet", spec := "fnExactIsValidRatchet", apart := false, narrowed := true }
def FnExactIsValidRatchetUptoSaid : Prop := fnExactIsValidRatchetUptoRow.holds Try.pinned (OpenSpec.upto fnExactIsValidRatchetSpec)

/-- 'laws.FnExactEqualRatchets', WHERE WHAT IT READS IS OF BULK AT MOST 1048576: true; the input reads as it did. -/
def fnExactEqualRatchetsUptoRow : OpenClaim := { program := "ytdodheahckpkfaa", sum := "98aa571d2a2e3b8f5bad8a5943c63268a6cdb4f959e0e515b12ddf0ec69f1f2c", func := "loop.example/g00516/laws.FnExactEqualRatchets", spec := "fnExactEqualRatchets", apart := false, narrowed := true }
def FnExactEqualRatchetsUptoSaid : Prop := fnExactEqualRatchetsUptoRow.holds Try.pinned (OpenSpec.upto fnExactEqualRatchetsSpec)

end Rows
end Go.Proofs.Ytdodheahckpkfaa
