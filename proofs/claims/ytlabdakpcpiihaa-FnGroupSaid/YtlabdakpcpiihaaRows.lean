/-
  No cell of these rows narrows 'for every input' (looked for: loops, veiled, ifaces, maps, wideKeys, modest, calm, conditions, laid).
  DERIVED. THE GIVEN ROWS OF THIS SEAT. 7 by the template 'for every input the law returns true; each argument reads behind the call as it read before'; 0 by the template 'total and deterministic' (their statements: YtlabdakpcpiihaaTotals.lean).
  GIVEN WITH THE SEED: the statements are not yours to turn. If you find one false, say at which input.
  Laid BY PROGRAM, IN A SANDBOX (cutbox-rows.mjs): the forced cells as the released guide's own fill.sh prints them over the translation e41e00cc2acdc827… (all of the seat's roots in one cut). By AI agents, Wed Nov 11 2026. No macro, syntax, notation, axiom, sorry.
-/
import Derived.Test.YtlabdakpcpiihaaChecked
import GoSem.Claim
import GoSem.ClaimJoined
import GoSem.ClaimMapViews
import Derived.JoinedTies
import Derived.KernelRfl
namespace Go.Proofs.Ytlabdakpcpiihaa
/- THE CELL 'sum', in the pinned program and in every row, IS THE sha256 OF THE DUMP (.gsa) THAT YtlabdakpcpiihaaProg.lean LOADS. Nothing in Lean hashes anything: it is a label: what it is worth is what the hold of that sum in a sandbox is worth. -/
noncomputable def Try.pinned : Pinned := { name := "ytlabdakpcpiihaa", sum := "e41e00cc2acdc8277d1cd3dc5721e1836ac0b0c81239dbf0b53bdb25b6cf5b53", checked := Try.checked }
namespace Rows
def none {H : Type} : Left H := { results := [], args := [] }

/-- 'laws.FnExactBlindToken': WHATEVER THE INPUT: true; the input reads as it did. -/
def fnExactBlindTokenSpec : ChangeSpec := { name := "fnExactBlindToken", fn := fun _ => fun
  | [d1, d2] => { results := [.lit (.bool true)], args := [d1, d2] }
  | _ => none }
def fnExactBlindTokenRow : OpenClaim := { program := "ytlabdakpcpiihaa", sum := "e41e00cc2acdc8277d1cd3dc5721e1836ac0b0c81239dbf0b53bdb25b6cf5b53", func := "loop.example/g00516/laws.FnExactBlindToken", spec := "fnExactBlindToken", apart := false }
def FnExactBlindTokenSaid : Prop := fnExactBlindTokenRow.holds Try.pinned (OpenSpec.ofChange fnExactBlindTokenSpec)

/-- ITS FALSE NEIGHBOUR: 'it returns false'. Refute it at one input. -/
def fnExactBlindTokenWrong : ChangeSpec := { name := "fnExactBlindToken", fn := fun _ => fun
  | [d1, d2] => { results := [.lit (.bool false)], args := [d1, d2] }
  | _ => none }
def FnExactBlindTokenWrongFalsely : Prop := fnExactBlindTokenRow.holds Try.pinned (OpenSpec.ofChange fnExactBlindTokenWrong)

/-- 'laws.FnExactSignBlinded': WHATEVER THE INPUT: true; the input reads as it did. -/
def fnExactSignBlindedSpec : ChangeSpec := { name := "fnExactSignBlinded", fn := fun _ => fun
  | [d1, d2, d3] => { results := [.lit (.bool true)], args := [d1, d2, d3] }
  | _ => none }
def fnExactSignBlindedRow : OpenClaim := { program := "ytlabdakpcpiihaa", sum := "e41e00cc2acdc8277d1cd3dc5721e1836ac0b0c81239dbf0b53bdb25b6cf5b53", func := "loop.example/g00516/laws.FnExactSignBlinded", spec := "fnExactSignBlinded", apart := false }
def FnExactSignBlindedSaid : Prop := fnExactSignBlindedRow.holds Try.pinned (OpenSpec.ofChange fnExactSignBlindedSpec)

/-- ITS FALSE NEIGHBOUR: 'it returns false'. Refute it at one input. -/
def fnExactSignBlindedWrong : ChangeSpec := { name := "fnExactSignBlinded", fn := fun _ => fun
  | [d1, d2, d3] => { results := [.lit (.bool false)], args := [d1, d2, d3] }
  | _ => none }
def FnExactSignBlindedWrongFalsely : Prop := fnExactSignBlindedRow.holds Try.pinned (OpenSpec.ofChange fnExactSignBlindedWrong)

/-- 'laws.FnExactExplainRequest': WHATEVER THE INPUT: true; the input reads as it did. -/
def fnExactExplainRequestSpec : ChangeSpec := { name := "fnExactExplainRequest", fn := fun _ => fun
  | [d1, d2] => { results := [.lit (.bool true)], args := [d1, d2] }
  | _ => none }
def fnExactExplainRequestRow : OpenClaim := { program := "ytlabdakpcpiihaa", sum := "e41e00cc2acdc8277d1cd3dc5721e1836ac0b0c81239dbf0b53bdb25b6cf5b53", func := "loop.example/g00516/laws.FnExactExplainRequest", spec := "fnExactExplainRequest", apart := false }
def FnExactExplainRequestSaid : Prop := fnExactExplainRequestRow.holds Try.pinned (OpenSpec.ofChange fnExactExplainRequestSpec)

/-- ITS FALSE NEIGHBOUR: 'it returns false'. Refute it at one input. -/
def fnExactExplainRequestWrong : ChangeSpec := { name := "fnExactExplainRequest", fn := fun _ => fun
  | [d1, d2] => { results := [.lit (.bool false)], args := [d1, d2] }
  | _ => none }
def FnExactExplainRequestWrongFalsely : Prop := fnExactExplainRequestRow.holds Try.pinned (OpenSpec.ofChange fnExactExplainRequestWrong)

/-- 'laws.FnExactFinishToken': WHATEVER THE INPUT: true; the input reads as it did. -/
def fnExactFinishTokenSpec : ChangeSpec := { name := "fnExactFinishToken", fn := fun _ => fun
  | [d1, d2, d3, d4] => { results := [.lit (.bool true)], args := [d1, d2, d3, d4] }
  | _ => none }
def fnExactFinishTokenRow : OpenClaim := { program := "ytlabdakpcpiihaa", sum := "e41e00cc2acdc8277d1cd3dc5721e1836ac0b0c81239dbf0b53bdb25b6cf5b53", func := "loop.example/g00516/laws.FnExactFinishToken", spec := "fnExactFinishToken", apart := false }
def FnExactFinishTokenSaid : Prop := fnExactFinishTokenRow.holds Try.pinned (OpenSpec.ofChange fnExactFinishTokenSpec)

/-- ITS FALSE NEIGHBOUR: 'it returns false'. Refute it at one input. -/
def fnExactFinishTokenWrong : ChangeSpec := { name := "fnExactFinishToken", fn := fun _ => fun
  | [d1, d2, d3, d4] => { results := [.lit (.bool false)], args := [d1, d2, d3, d4] }
  | _ => none }
def FnExactFinishTokenWrongFalsely : Prop := fnExactFinishTokenRow.holds Try.pinned (OpenSpec.ofChange fnExactFinishTokenWrong)

/-- 'laws.FnTokensAreBlind': WHATEVER THE INPUT: true; the input reads as it did. -/
def fnTokensAreBlindSpec : ChangeSpec := { name := "fnTokensAreBlind", fn := fun _ => fun
  | [d] => { results := [.lit (.bool true)], args := [d] }
  | _ => none }
def fnTokensAreBlindRow : OpenClaim := { program := "ytlabdakpcpiihaa", sum := "e41e00cc2acdc8277d1cd3dc5721e1836ac0b0c81239dbf0b53bdb25b6cf5b53", func := "loop.example/g00516/laws.FnTokensAreBlind", spec := "fnTokensAreBlind", apart := false }
def FnTokensAreBlindSaid : Prop := fnTokensAreBlindRow.holds Try.pinned (OpenSpec.ofChange fnTokensAreBlindSpec)

/-- ITS FALSE NEIGHBOUR: 'it returns false'. Refute it at one input. -/
def fnTokensAreBlindWrong : ChangeSpec := { name := "fnTokensAreBlind", fn := fun _ => fun
  | [d] => { results := [.lit (.bool false)], args := [d] }
  | _ => none }
def FnTokensAreBlindWrongFalsely : Prop := fnTokensAreBlindRow.holds Try.pinned (OpenSpec.ofChange fnTokensAreBlindWrong)

/-- 'laws.FnGroup': WHATEVER THE INPUT: true; the input reads as it did. -/
def fnGroupSpec : ChangeSpec := { name := "fnGroup", fn := fun _ => fun
  | [d] => { results := [.lit (.bool true)], args := [d] }
  | _ => none }
def fnGroupRow : OpenClaim := { program := "ytlabdakpcpiihaa", sum := "e41e00cc2acdc8277d1cd3dc5721e1836ac0b0c81239dbf0b53bdb25b6cf5b53", func := "loop.example/g00516/laws.FnGroup", spec := "fnGroup", apart := false }
def FnGroupSaid : Prop := fnGroupRow.holds Try.pinned (OpenSpec.ofChange fnGroupSpec)

/-- ITS FALSE NEIGHBOUR: 'it returns false'. Refute it at one input. -/
def fnGroupWrong : ChangeSpec := { name := "fnGroup", fn := fun _ => fun
  | [d] => { results := [.lit (.bool false)], args := [d] }
  | _ => none }
def FnGroupWrongFalsely : Prop := fnGroupRow.holds Try.pinned (OpenSpec.ofChange fnGroupWrong)

/-- 'laws.FnEqualityProofs': WHATEVER THE INPUT: true; the input reads as it did. -/
def fnEqualityProofsSpec : ChangeSpec := { name := "fnEqualityProofs", fn := fun _ => fun
  | [d] => { results := [.lit (.bool true)], args := [d] }
  | _ => none }
def fnEqualityProofsRow : OpenClaim := { program := "ytlabdakpcpiihaa", sum := "e41e00cc2acdc8277d1cd3dc5721e1836ac0b0c81239dbf0b53bdb25b6cf5b53", func := "loop.example/g00516/laws.FnEqualityProofs", spec := "fnEqualityProofs", apart := false }
def FnEqualityProofsSaid : Prop := fnEqualityProofsRow.holds Try.pinned (OpenSpec.ofChange fnEqualityProofsSpec)

/-- ITS FALSE NEIGHBOUR: 'it returns false'. Refute it at one input. -/
def fnEqualityProofsWrong : ChangeSpec := { name := "fnEqualityProofs", fn := fun _ => fun
  | [d] => { results := [.lit (.bool false)], args := [d] }
  | _ => none }
def FnEqualityProofsWrongFalsely : Prop := fnEqualityProofsRow.holds Try.pinned (OpenSpec.ofChange fnEqualityProofsWrong)

/- THE SECOND FORM. 'bulk': how many values and letters a reading holds, each counted each time it is reached (what is shared counts as often as it is met; a slice's spare places count too). A statement '..UptoSaid' is the law's where the arguments, and the package variables that the reading takes, are together of bulk at most 1048576: NARROWER than '..Said'. Prove '..Said' where nothing that the law and all that it calls make is longer than what came in: it says more and counts as full. Else prove '..UptoSaid'. A law counts once. -/
mutual
def uptoBulk {H : Type} : DataW H → Nat
  | .lit (.string bytes) => bytes.length + 1
  | .lit _ => 1
  | .nil => 1
  | .ptr d => uptoBulk d + 1
  | .slice elems spare => uptoBulkAll elems + uptoBulkAll spare + 1
  | .agg parts => uptoBulkAll parts + 1
  | .iface _ d => uptoBulk d + 1
  | .map entries => uptoBulkEntries entries + 1
  | .held _ => 1
def uptoBulkAll {H : Type} : List (DataW H) → Nat
  | [] => 0
  | d :: r => uptoBulk d + uptoBulkAll r
def uptoBulkEntries {H : Type} : List (Lit × DataW H) → Nat
  | [] => 0
  | x :: r => uptoBulkEntry x + uptoBulkEntries r
def uptoBulkEntry {H : Type} : Lit × DataW H → Nat
  | (.string bytes, d) => bytes.length + uptoBulk d + 1
  | (_, d) => uptoBulk d + 1
 end
def uptoSmall : (H : Type) → List (DataW H) → Bool := fun _ ds => decide (uptoBulkAll ds ≤ 1048576)
def OpenSpec.upto (s : _root_.Go.ChangeSpec) : _root_.Go.OpenSpec := { _root_.Go.OpenSpec.ofChange s with cond := some uptoSmall }

/-- 'laws.FnExactBlindToken', WHERE WHAT IT READS IS OF BULK AT MOST 1048576: true; the input reads as it did. -/
def fnExactBlindTokenUptoRow : OpenClaim := { program := "ytlabdakpcpiihaa", sum := "e41e00cc2acdc8277d1cd3dc5721e1836ac0b0c81239dbf0b53bdb25b6cf5b53", func := "loop.example/g00516/laws.FnExactBlindToken", spec := "fnExactBlindToken", apart := false, narrowed := true }
def FnExactBlindTokenUptoSaid : Prop := fnExactBlindTokenUptoRow.holds Try.pinned (OpenSpec.upto fnExactBlindTokenSpec)

/-- 'laws.FnExactSignBlinded', WHERE WHAT IT READS IS OF BULK AT MOST 1048576: true; the input reads as it did. -/
def fnExactSignBlindedUptoRow : OpenClaim := { program := "ytlabdakpcpiihaa", sum := "e41e00cc2acdc8277d1cd3dc5721e1836ac0b0c81239dbf0b53bdb25b6cf5b53", func := "loop.example/g00516/laws.FnExactSignBlinded", spec := "fnExactSignBlinded", apart := false, narrowed := true }
def FnExactSignBlindedUptoSaid : Prop := fnExactSignBlindedUptoRow.holds Try.pinned (OpenSpec.upto fnExactSignBlindedSpec)

/-- 'laws.FnExactExplainRequest', WHERE WHAT IT READS IS OF BULK AT MOST 1048576: true; the input reads as it did. -/
def fnExactExplainRequestUptoRow : OpenClaim := { program := "ytlabdakpcpiihaa", sum := "e41e00cc2acdc8277d1cd3dc5721e1836ac0b0c81239dbf0b53bdb25b6cf5b53", func := "loop.example/g00516/laws.FnExactExplainRequest", spec := "fnExactExplainRequest", apart := false, narrowed := true }
def FnExactExplainRequestUptoSaid : Prop := fnExactExplainRequestUptoRow.holds Try.pinned (OpenSpec.upto fnExactExplainRequestSpec)

/-- 'laws.FnExactFinishToken', WHERE WHAT IT READS IS OF BULK AT MOST 1048576: true; the input reads as it did. -/
def fnExactFinishTokenUptoRow : OpenClaim := { program := "ytlabdakpcpiihaa", sum := "e41e00cc2acdc8277d1cd3dc5721e1836ac0b0c81239dbf0b53bdb25b6cf5b53", func := "loop.example/g00516/laws.FnExactFinishToken", spec := "fnExactFinishToken", apart := false, narrowed := true }
def FnExactFinishTokenUptoSaid : Prop := fnExactFinishTokenUptoRow.holds Try.pinned (OpenSpec.upto fnExactFinishTokenSpec)

/-- 'laws.FnTokensAreBlind', WHERE WHAT IT READS IS OF BULK AT MOST 1048576: true; the input reads as it did. -/
def fnTokensAreBlindUptoRow : OpenClaim := { program := "ytlabdakpcpiihaa", sum := "e41e00cc2acdc8277d1cd3dc5721e1836ac0b0c81239dbf0b53bdb25b6cf5b53", func := "loop.example/g00516/laws.FnTokensAreBlind", spec := "fnTokensAreBlind", apart := false, narrowed := true }
def FnTokensAreBlindUptoSaid : Prop := fnTokensAreBlindUptoRow.holds Try.pinned (OpenSpec.upto fnTokensAreBlindSpec)

/-- 'laws.FnGroup', WHERE WHAT IT READS IS OF BULK AT MOST 1048576: true; the input reads as it did. -/
def fnGroupUptoRow : OpenClaim := { program := "ytlabdakpcpiihaa", sum := "e41e00cc2acdc8277d1cd3dc5721e1836ac0b0c81239dbf0b53bdb25b6cf5b53", func := "loop.example/g00516/laws.FnGroup", spec := "fnGroup", apart := false, narrowed := true }
def FnGroupUptoSaid : Prop := fnGroupUptoRow.holds Try.pinned (OpenSpec.upto fnGroupSpec)

/-- 'laws.FnEqualityProofs', WHERE WHAT IT READS IS OF BULK AT MOST 1048576: true; the input reads as it did. -/
def fnEqualityProofsUptoRow : OpenClaim := { program := "ytlabdakpcpiihaa", sum := "e41e00cc2acdc8277d1cd3dc5721e1836ac0b0c81239dbf0b53bdb25b6cf5b53", func := "loop.example/g00516/laws.FnEqualityProofs", spec := "fnEqualityProofs", apart := false, narrowed := true }
def FnEqualityProofsUptoSaid : Prop := fnEqualityProofsUptoRow.holds Try.pinned (OpenSpec.upto fnEqualityProofsSpec)

end Rows
end Go.Proofs.Ytlabdakpcpiihaa
