/-
  No cell of these rows narrows 'for every input' (looked for: loops, veiled, ifaces, maps, wideKeys, modest, calm, conditions, laid).
  DERIVED. THE GIVEN ROWS OF THIS SEAT. 12 by the template 'for every input the law returns true; each argument reads behind the call as it read before'; 0 by the template 'total and deterministic' (their statements: YtjoijmimgnboeaaTotals.lean).
  GIVEN WITH THE SEED: the statements are not yours to turn. If you find one false, say at which input.
  Laid BY PROGRAM, IN A SANDBOX (cutbox-rows.mjs): the forced cells as the released guide's own fill.sh prints them over the translation 999d1d4905eb8791… (all of the seat's roots in one cut). By AI agents, Wed Nov 11 2026. No macro, syntax, notation, axiom, sorry.
-/
import Derived.Test.YtjoijmimgnboeaaChecked
import GoSem.Claim
import GoSem.ClaimJoined
import GoSem.ClaimMapViews
import Derived.JoinedTies
import Derived.KernelRfl
namespace Go.Proofs.Ytjoijmimgnboeaa
/- THE CELL 'sum', in the pinned program and in every row, IS THE sha256 OF THE DUMP (.gsa) THAT YtjoijmimgnboeaaProg.lean LOADS. Nothing in Lean hashes anything: it is a label: what it is worth is what the hold of that sum in a sandbox is worth. -/
noncomputable def Try.pinned : Pinned := { name := "ytjoijmimgnboeaa", sum := "999d1d4905eb87917a99d2ad15673c72ed2418d7863fc68355205d9a7ff46661", checked := Try.checked }
namespace Rows
def none {H : Type} : Left H := { results := [], args := [] }

/-- 'laws.FnExactDirectionKey': WHATEVER THE INPUT: true; the input reads as it did. -/
def fnExactDirectionKeySpec : ChangeSpec := { name := "fnExactDirectionKey", fn := fun _ => fun
  | [d1, d2] => { results := [.lit (.bool true)], args := [d1, d2] }
  | _ => none }
def fnExactDirectionKeyRow : OpenClaim := { program := "ytjoijmimgnboeaa", sum := "999d1d4905eb87917a99d2ad15673c72ed2418d7863fc68355205d9a7ff46661", func := "loop.example/g00516/laws.FnExactDirectionKey", spec := "fnExactDirectionKey", apart := false }
def FnExactDirectionKeySaid : Prop := fnExactDirectionKeyRow.holds Try.pinned (OpenSpec.ofChange fnExactDirectionKeySpec)

/-- ITS FALSE NEIGHBOUR: 'it returns false'. Refute it at one input. -/
def fnExactDirectionKeyWrong : ChangeSpec := { name := "fnExactDirectionKey", fn := fun _ => fun
  | [d1, d2] => { results := [.lit (.bool false)], args := [d1, d2] }
  | _ => none }
def FnExactDirectionKeyWrongFalsely : Prop := fnExactDirectionKeyRow.holds Try.pinned (OpenSpec.ofChange fnExactDirectionKeyWrong)

/-- 'laws.FnExactFreshSecret': WHATEVER THE INPUT: true; the input reads as it did. -/
def fnExactFreshSecretSpec : ChangeSpec := { name := "fnExactFreshSecret", fn := fun _ => fun
  | [d] => { results := [.lit (.bool true)], args := [d] }
  | _ => none }
def fnExactFreshSecretRow : OpenClaim := { program := "ytjoijmimgnboeaa", sum := "999d1d4905eb87917a99d2ad15673c72ed2418d7863fc68355205d9a7ff46661", func := "loop.example/g00516/laws.FnExactFreshSecret", spec := "fnExactFreshSecret", apart := false }
def FnExactFreshSecretSaid : Prop := fnExactFreshSecretRow.holds Try.pinned (OpenSpec.ofChange fnExactFreshSecretSpec)

/-- ITS FALSE NEIGHBOUR: 'it returns false'. Refute it at one input. -/
def fnExactFreshSecretWrong : ChangeSpec := { name := "fnExactFreshSecret", fn := fun _ => fun
  | [d] => { results := [.lit (.bool false)], args := [d] }
  | _ => none }
def FnExactFreshSecretWrongFalsely : Prop := fnExactFreshSecretRow.holds Try.pinned (OpenSpec.ofChange fnExactFreshSecretWrong)

/-- 'laws.FnExactMessageKey': WHATEVER THE INPUT: true; the input reads as it did. -/
def fnExactMessageKeySpec : ChangeSpec := { name := "fnExactMessageKey", fn := fun _ => fun
  | [d] => { results := [.lit (.bool true)], args := [d] }
  | _ => none }
def fnExactMessageKeyRow : OpenClaim := { program := "ytjoijmimgnboeaa", sum := "999d1d4905eb87917a99d2ad15673c72ed2418d7863fc68355205d9a7ff46661", func := "loop.example/g00516/laws.FnExactMessageKey", spec := "fnExactMessageKey", apart := false }
def FnExactMessageKeySaid : Prop := fnExactMessageKeyRow.holds Try.pinned (OpenSpec.ofChange fnExactMessageKeySpec)

/-- ITS FALSE NEIGHBOUR: 'it returns false'. Refute it at one input. -/
def fnExactMessageKeyWrong : ChangeSpec := { name := "fnExactMessageKey", fn := fun _ => fun
  | [d] => { results := [.lit (.bool false)], args := [d] }
  | _ => none }
def FnExactMessageKeyWrongFalsely : Prop := fnExactMessageKeyRow.holds Try.pinned (OpenSpec.ofChange fnExactMessageKeyWrong)

/-- 'laws.FnExactNextChain': WHATEVER THE INPUT: true; the input reads as it did. -/
def fnExactNextChainSpec : ChangeSpec := { name := "fnExactNextChain", fn := fun _ => fun
  | [d] => { results := [.lit (.bool true)], args := [d] }
  | _ => none }
def fnExactNextChainRow : OpenClaim := { program := "ytjoijmimgnboeaa", sum := "999d1d4905eb87917a99d2ad15673c72ed2418d7863fc68355205d9a7ff46661", func := "loop.example/g00516/laws.FnExactNextChain", spec := "fnExactNextChain", apart := false }
def FnExactNextChainSaid : Prop := fnExactNextChainRow.holds Try.pinned (OpenSpec.ofChange fnExactNextChainSpec)

/-- ITS FALSE NEIGHBOUR: 'it returns false'. Refute it at one input. -/
def fnExactNextChainWrong : ChangeSpec := { name := "fnExactNextChain", fn := fun _ => fun
  | [d] => { results := [.lit (.bool false)], args := [d] }
  | _ => none }
def FnExactNextChainWrongFalsely : Prop := fnExactNextChainRow.holds Try.pinned (OpenSpec.ofChange fnExactNextChainWrong)

/-- 'laws.FnExactNextSecret': WHATEVER THE INPUT: true; the input reads as it did. -/
def fnExactNextSecretSpec : ChangeSpec := { name := "fnExactNextSecret", fn := fun _ => fun
  | [d1, d2] => { results := [.lit (.bool true)], args := [d1, d2] }
  | _ => none }
def fnExactNextSecretRow : OpenClaim := { program := "ytjoijmimgnboeaa", sum := "999d1d4905eb87917a99d2ad15673c72ed2418d7863fc68355205d9a7ff46661", func := "loop.example/g00516/laws.FnExactNextSecret", spec := "fnExactNextSecret", apart := false }
def FnExactNextSecretSaid : Prop := fnExactNextSecretRow.holds Try.pinned (OpenSpec.ofChange fnExactNextSecretSpec)

/-- ITS FALSE NEIGHBOUR: 'it returns false'. Refute it at one input. -/
def fnExactNextSecretWrong : ChangeSpec := { name := "fnExactNextSecret", fn := fun _ => fun
  | [d1, d2] => { results := [.lit (.bool false)], args := [d1, d2] }
  | _ => none }
def FnExactNextSecretWrongFalsely : Prop := fnExactNextSecretRow.holds Try.pinned (OpenSpec.ofChange fnExactNextSecretWrong)

/-- 'laws.FnExactDialRow': WHATEVER THE INPUT: true; the input reads as it did. -/
def fnExactDialRowSpec : ChangeSpec := { name := "fnExactDialRow", fn := fun _ => fun
  | [d1, d2, d3] => { results := [.lit (.bool true)], args := [d1, d2, d3] }
  | _ => none }
def fnExactDialRowRow : OpenClaim := { program := "ytjoijmimgnboeaa", sum := "999d1d4905eb87917a99d2ad15673c72ed2418d7863fc68355205d9a7ff46661", func := "loop.example/g00516/laws.FnExactDialRow", spec := "fnExactDialRow", apart := false }
def FnExactDialRowSaid : Prop := fnExactDialRowRow.holds Try.pinned (OpenSpec.ofChange fnExactDialRowSpec)

/-- ITS FALSE NEIGHBOUR: 'it returns false'. Refute it at one input. -/
def fnExactDialRowWrong : ChangeSpec := { name := "fnExactDialRow", fn := fun _ => fun
  | [d1, d2, d3] => { results := [.lit (.bool false)], args := [d1, d2, d3] }
  | _ => none }
def FnExactDialRowWrongFalsely : Prop := fnExactDialRowRow.holds Try.pinned (OpenSpec.ofChange fnExactDialRowWrong)

/-- 'laws.FnExactMailboxRow': WHATEVER THE INPUT: true; the input reads as it did. -/
def fnExactMailboxRowSpec : ChangeSpec := { name := "fnExactMailboxRow", fn := fun _ => fun
  | [d1, d2, d3, d4] => { results := [.lit (.bool true)], args := [d1, d2, d3, d4] }
  | _ => none }
def fnExactMailboxRowRow : OpenClaim := { program := "ytjoijmimgnboeaa", sum := "999d1d4905eb87917a99d2ad15673c72ed2418d7863fc68355205d9a7ff46661", func := "loop.example/g00516/laws.FnExactMailboxRow", spec := "fnExactMailboxRow", apart := false }
def FnExactMailboxRowSaid : Prop := fnExactMailboxRowRow.holds Try.pinned (OpenSpec.ofChange fnExactMailboxRowSpec)

/-- ITS FALSE NEIGHBOUR: 'it returns false'. Refute it at one input. -/
def fnExactMailboxRowWrong : ChangeSpec := { name := "fnExactMailboxRow", fn := fun _ => fun
  | [d1, d2, d3, d4] => { results := [.lit (.bool false)], args := [d1, d2, d3, d4] }
  | _ => none }
def FnExactMailboxRowWrongFalsely : Prop := fnExactMailboxRowRow.holds Try.pinned (OpenSpec.ofChange fnExactMailboxRowWrong)

/-- 'laws.FnExactSharedKey': WHATEVER THE INPUT: true; the input reads as it did. -/
def fnExactSharedKeySpec : ChangeSpec := { name := "fnExactSharedKey", fn := fun _ => fun
  | [d1, d2] => { results := [.lit (.bool true)], args := [d1, d2] }
  | _ => none }
def fnExactSharedKeyRow : OpenClaim := { program := "ytjoijmimgnboeaa", sum := "999d1d4905eb87917a99d2ad15673c72ed2418d7863fc68355205d9a7ff46661", func := "loop.example/g00516/laws.FnExactSharedKey", spec := "fnExactSharedKey", apart := false }
def FnExactSharedKeySaid : Prop := fnExactSharedKeyRow.holds Try.pinned (OpenSpec.ofChange fnExactSharedKeySpec)

/-- ITS FALSE NEIGHBOUR: 'it returns false'. Refute it at one input. -/
def fnExactSharedKeyWrong : ChangeSpec := { name := "fnExactSharedKey", fn := fun _ => fun
  | [d1, d2] => { results := [.lit (.bool false)], args := [d1, d2] }
  | _ => none }
def FnExactSharedKeyWrongFalsely : Prop := fnExactSharedKeyRow.holds Try.pinned (OpenSpec.ofChange fnExactSharedKeyWrong)

/-- 'laws.FnExactProveEqual': WHATEVER THE INPUT: true; the input reads as it did. -/
def fnExactProveEqualSpec : ChangeSpec := { name := "fnExactProveEqual", fn := fun _ => fun
  | [d1, d2, d3, d4] => { results := [.lit (.bool true)], args := [d1, d2, d3, d4] }
  | _ => none }
def fnExactProveEqualRow : OpenClaim := { program := "ytjoijmimgnboeaa", sum := "999d1d4905eb87917a99d2ad15673c72ed2418d7863fc68355205d9a7ff46661", func := "loop.example/g00516/laws.FnExactProveEqual", spec := "fnExactProveEqual", apart := false }
def FnExactProveEqualSaid : Prop := fnExactProveEqualRow.holds Try.pinned (OpenSpec.ofChange fnExactProveEqualSpec)

/-- ITS FALSE NEIGHBOUR: 'it returns false'. Refute it at one input. -/
def fnExactProveEqualWrong : ChangeSpec := { name := "fnExactProveEqual", fn := fun _ => fun
  | [d1, d2, d3, d4] => { results := [.lit (.bool false)], args := [d1, d2, d3, d4] }
  | _ => none }
def FnExactProveEqualWrongFalsely : Prop := fnExactProveEqualRow.holds Try.pinned (OpenSpec.ofChange fnExactProveEqualWrong)

/-- 'laws.FnExactVerifyEqual': WHATEVER THE INPUT: true; the input reads as it did. -/
def fnExactVerifyEqualSpec : ChangeSpec := { name := "fnExactVerifyEqual", fn := fun _ => fun
  | [d1, d2, d3, d4, d5, d6] => { results := [.lit (.bool true)], args := [d1, d2, d3, d4, d5, d6] }
  | _ => none }
def fnExactVerifyEqualRow : OpenClaim := { program := "ytjoijmimgnboeaa", sum := "999d1d4905eb87917a99d2ad15673c72ed2418d7863fc68355205d9a7ff46661", func := "loop.example/g00516/laws.FnExactVerifyEqual", spec := "fnExactVerifyEqual", apart := false }
def FnExactVerifyEqualSaid : Prop := fnExactVerifyEqualRow.holds Try.pinned (OpenSpec.ofChange fnExactVerifyEqualSpec)

/-- ITS FALSE NEIGHBOUR: 'it returns false'. Refute it at one input. -/
def fnExactVerifyEqualWrong : ChangeSpec := { name := "fnExactVerifyEqual", fn := fun _ => fun
  | [d1, d2, d3, d4, d5, d6] => { results := [.lit (.bool false)], args := [d1, d2, d3, d4, d5, d6] }
  | _ => none }
def FnExactVerifyEqualWrongFalsely : Prop := fnExactVerifyEqualRow.holds Try.pinned (OpenSpec.ofChange fnExactVerifyEqualWrong)

/-- 'laws.FnExactIsValidToken': WHATEVER THE INPUT: true; the input reads as it did. -/
def fnExactIsValidTokenSpec : ChangeSpec := { name := "fnExactIsValidToken", fn := fun _ => fun
  | [d1, d2] => { results := [.lit (.bool true)], args := [d1, d2] }
  | _ => none }
def fnExactIsValidTokenRow : OpenClaim := { program := "ytjoijmimgnboeaa", sum := "999d1d4905eb87917a99d2ad15673c72ed2418d7863fc68355205d9a7ff46661", func := "loop.example/g00516/laws.FnExactIsValidToken", spec := "fnExactIsValidToken", apart := false }
def FnExactIsValidTokenSaid : Prop := fnExactIsValidTokenRow.holds Try.pinned (OpenSpec.ofChange fnExactIsValidTokenSpec)

/-- ITS FALSE NEIGHBOUR: 'it returns false'. Refute it at one input. -/
def fnExactIsValidTokenWrong : ChangeSpec := { name := "fnExactIsValidToken", fn := fun _ => fun
  | [d1, d2] => { results := [.lit (.bool false)], args := [d1, d2] }
  | _ => none }
def FnExactIsValidTokenWrongFalsely : Prop := fnExactIsValidTokenRow.holds Try.pinned (OpenSpec.ofChange fnExactIsValidTokenWrong)

/-- 'laws.FnExactFreeRound': WHATEVER THE INPUT: true; the input reads as it did. -/
def fnExactFreeRoundSpec : ChangeSpec := { name := "fnExactFreeRound", fn := fun _ => fun
  | [d1, d2, d3] => { results := [.lit (.bool true)], args := [d1, d2, d3] }
  | _ => none }
def fnExactFreeRoundRow : OpenClaim := { program := "ytjoijmimgnboeaa", sum := "999d1d4905eb87917a99d2ad15673c72ed2418d7863fc68355205d9a7ff46661", func := "loop.example/g00516/laws.FnExactFreeRound", spec := "fnExactFreeRound", apart := false }
def FnExactFreeRoundSaid : Prop := fnExactFreeRoundRow.holds Try.pinned (OpenSpec.ofChange fnExactFreeRoundSpec)

/-- ITS FALSE NEIGHBOUR: 'it returns false'. Refute it at one input. -/
def fnExactFreeRoundWrong : ChangeSpec := { name := "fnExactFreeRound", fn := fun _ => fun
  | [d1, d2, d3] => { results := [.lit (.bool false)], args := [d1, d2, d3] }
  | _ => none }
def FnExactFreeRoundWrongFalsely : Prop := fnExactFreeRoundRow.holds Try.pinned (OpenSpec.ofChange fnExactFreeRoundWrong)

/- THE SECOND FORM. 'bulk': how many values and letters a reading holds, each counted each time it is reached (what is shared counts as often as it is met; a slice's spare places count too). A statement '..UptoSaid' is the law's where the arguments, and the package variables that the reading takes, are together of bulk at most 1048576: NARROWER than '..Said'. Prove '..Said' where nothing that the law and all that it calls make is longer than what came in: it says more and counts as full. Else prove '..UptoSaid'. A law counts once. -/
mutual
def uptoBulk {H : Type} : DataW H → Nat
  | .lit (.string bytes) => bytes.length + 1
  | .lit _ => 1
  | .nil => 1
  | .ptr d => uptoBulk d + 1
  | .slice elems spare => uptoBulkAll elems + uptoBulkAll spare + 1
  | .agg parts => uptoBulkAll parts + 1
  | .iface _ d => uptoBulk d + 1
  | .map entries => uptoBulkEntries entries + 1
  | .held _ => 1
def uptoBulkAll {H : Type} : List (DataW H) → Nat
  | [] => 0
  | d :: r => uptoBulk d + uptoBulkAll r
def uptoBulkEntries {H : Type} : List (Lit × DataW H) → Nat
  | [] => 0
  | x :: r => uptoBulkEntry x + uptoBulkEntries r
def uptoBulkEntry {H : Type} : Lit × DataW H → Nat
  | (.string bytes, d) => bytes.length + uptoBulk d + 1
  | (_, d) => uptoBulk d + 1
 end
def uptoSmall : (H : Type) → List (DataW H) → Bool := fun _ ds => decide (uptoBulkAll ds ≤ 1048576)
def OpenSpec.upto (s : _root_.Go.ChangeSpec) : _root_.Go.OpenSpec := { _root_.Go.OpenSpec.ofChange s with cond := some uptoSmall }

/-- 'laws.FnExactDirectionKey', WHERE WHAT IT READS IS OF BULK AT MOST 1048576: true; the input reads as it did. -/
def fnExactDirectionKeyUptoRow : OpenClaim := { program := "ytjoijmimgnboeaa", sum := "999d1d4905eb87917a99d2ad15673c72ed2418d7863fc68355205d9a7ff46661", func := "loop.example/g00516/laws.FnExactDirectionKey", spec := "fnExactDirectionKey", apart := false, narrowed := true }
def FnExactDirectionKeyUptoSaid : Prop := fnExactDirectionKeyUptoRow.holds Try.pinned (OpenSpec.upto fnExactDirectionKeySpec)

/-- 'laws.FnExactFreshSecret', WHERE WHAT IT READS IS OF BULK AT MOST 1048576: true; the input reads as it did. -/
def fnExactFreshSecretUptoRow : OpenClaim := { program := "ytjoijmimgnboeaa", sum := "999d1d4905eb87917a99d2ad15673c72ed2418d7863fc68355205d9a7ff46661", func := "loop.example/g00516/laws.FnExactFreshSecret", spec := "fnExactFreshSecret", apart := false, narrowed := true }
def FnExactFreshSecretUptoSaid : Prop := fnExactFreshSecretUptoRow.holds Try.pinned (OpenSpec.upto fnExactFreshSecretSpec)

/-- 'laws.FnExactMessageKey', WHERE WHAT IT READS IS OF BULK AT MOST 1048576: true; the input reads as it did. -/
def fnExactMessageKeyUptoRow : OpenClaim := { program := "ytjoijmimgnboeaa", sum := "999d1d4905eb87917a99d2ad15673c72ed2418d7863fc68355205d9a7ff46661", func := "loop.example/g00516/laws.FnExactMessageKey", spec := "fnExactMessageKey", apart := false, narrowed := true }
def FnExactMessageKeyUptoSaid : Prop := fnExactMessageKeyUptoRow.holds Try.pinned (OpenSpec.upto fnExactMessageKeySpec)

/-- 'laws.FnExactNextChain', WHERE WHAT IT READS IS OF BULK AT MOST 1048576: true; the input reads as it did. -/
def fnExactNextChainUptoRow : OpenClaim := { program := "ytjoijmimgnboeaa", sum := "999d1d4905eb87917a99d2ad15673c72ed2418d7863fc68355205d9a7ff46661", func := "loop.example/g00516/laws.FnExactNextChain", spec := "fnExactNextChain", apart := false, narrowed := true }
def FnExactNextChainUptoSaid : Prop := fnExactNextChainUptoRow.holds Try.pinned (OpenSpec.upto fnExactNextChainSpec)

/-- 'laws.FnExactNextSecret', WHERE WHAT IT READS IS OF BULK AT MOST 1048576: true; the input reads as it did. -/
def fnExactNextSecretUptoRow : OpenClaim := { program := "ytjoijmimgnboeaa", sum := "999d1d4905eb87917a99d2ad15673c72ed2418d7863fc68355205d9a7ff46661", func := "loop.example/g00516/laws.FnExactNextSecret", spec := "fnExactNextSecret", apart := false, narrowed := true }
def FnExactNextSecretUptoSaid : Prop := fnExactNextSecretUptoRow.holds Try.pinned (OpenSpec.upto fnExactNextSecretSpec)

/-- 'laws.FnExactDialRow', WHERE WHAT IT READS IS OF BULK AT MOST 1048576: true; the input reads as it did. -/
def fnExactDialRowUptoRow : OpenClaim := { program := "ytjoijmimgnboeaa", sum := "999d1d4905eb87917a99d2ad15673c72ed2418d7863fc68355205d9a7ff46661", func := "loop.example/g00516/laws.FnExactDialRow", spec := "fnExactDialRow", apart := false, narrowed := true }
def FnExactDialRowUptoSaid : Prop := fnExactDialRowUptoRow.holds Try.pinned (OpenSpec.upto fnExactDialRowSpec)

/-- 'laws.FnExactMailboxRow', WHERE WHAT IT READS IS OF BULK AT MOST 1048576: true; the input reads as it did. -/
def fnExactMailboxRowUptoRow : OpenClaim := { program := "ytjoijmimgnboeaa", sum := "999d1d4905eb87917a99d2ad15673c72ed2418d7863fc68355205d9a7ff46661", func := "loop.example/g00516/laws.FnExactMailboxRow", spec := "fnExactMailboxRow", apart := false, narrowed := true }
def FnExactMailboxRowUptoSaid : Prop := fnExactMailboxRowUptoRow.holds Try.pinned (OpenSpec.upto fnExactMailboxRowSpec)

/-- 'laws.FnExactSharedKey', WHERE WHAT IT READS IS OF BULK AT MOST 1048576: true; the input reads as it did. -/
def fnExactSharedKeyUptoRow : OpenClaim := { program := "ytjoijmimgnboeaa", sum := "999d1d4905eb87917a99d2ad15673c72ed2418d7863fc68355205d9a7ff46661", func := "loop.example/g00516/laws.FnExactSharedKey", spec := "fnExactSharedKey", apart := false, narrowed := true }
def FnExactSharedKeyUptoSaid : Prop := fnExactSharedKeyUptoRow.holds Try.pinned (OpenSpec.upto fnExactSharedKeySpec)

/-- 'laws.FnExactProveEqual', WHERE WHAT IT READS IS OF BULK AT MOST 1048576: true; the input reads as it did. -/
def fnExactProveEqualUptoRow : OpenClaim := { program := "ytjoijmimgnboeaa", sum := "999d1d4905eb87917a99d2ad15673c72ed2418d7863fc68355205d9a7ff46661", func := "loop.example/g00516/laws.FnExactProveEqual", spec := "fnExactProveEqual", apart := false, narrowed := true }
def FnExactProveEqualUptoSaid : Prop := fnExactProveEqualUptoRow.holds Try.pinned (OpenSpec.upto fnExactProveEqualSpec)

/-- 'laws.FnExactVerifyEqual', WHERE WHAT IT READS IS OF BULK AT MOST 1048576: true; the input reads as it did. -/
def fnExactVerifyEqualUptoRow : OpenClaim := { program := "ytjoijmimgnboeaa", sum := "999d1d4905eb87917a99d2ad15673c72ed2418d7863fc68355205d9a7ff46661", func := "loop.example/g00516/laws.FnExactVerifyEqual", spec := "fnExactVerifyEqual", apart := false, narrowed := true }
def FnExactVerifyEqualUptoSaid : Prop := fnExactVerifyEqualUptoRow.holds Try.pinned (OpenSpec.upto fnExactVerifyEqualSpec)

/-- 'laws.FnExactIsValidToken', WHERE WHAT IT READS IS OF BULK AT MOST 1048576: true; the input reads as it did. -/
def fnExactIsValidTokenUptoRow : OpenClaim := { program := "ytjoijmimgnboeaa", sum := "999d1d4905eb87917a99d2ad15673c72ed2418d7863fc68355205d9a7ff46661", func := "loop.example/g00516/laws.FnExactIsValidToken", spec := "fnExactIsValidToken", apart := false, narrowed := true }
def FnExactIsValidTokenUptoSaid : Prop := fnExactIsValidTokenUptoRow.holds Try.pinned (OpenSpec.upto fnExactIsValidTokenSpec)

/-- 'laws.FnExactFreeRound', WHERE WHAT IT READS IS OF BULK AT MOST 1048576: true; the input reads as it did. -/
def fnExactFreeRoundUptoRow : OpenClaim := { program := "ytjoijmimgnboeaa", sum := "999d1d4905eb87917a99d2ad15673c72ed2418d7863fc68355205d9a7ff46661", func := "loop.example/g00516/laws.FnExactFreeRound", spec := "fnExactFreeRound", apart := false, narrowed := true }
def FnExactFreeRoundUptoSaid : Prop := fnExactFreeRoundUptoRow.holds Try.pinned (OpenSpec.upto fnExactFreeRoundSpec)

end Rows
end Go.Proofs.Ytjoijmimgnboeaa
