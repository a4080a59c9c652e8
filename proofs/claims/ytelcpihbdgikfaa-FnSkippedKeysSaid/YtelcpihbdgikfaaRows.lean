/-
  No cell of these rows narrows 'for every input' (looked for: loops, veiled, ifaces, maps, wideKeys, modest, calm, conditions, laid).
  DERIVED. THE GIVEN ROWS OF THIS SEAT. 12 by the template 'for every input the law returns true; each argument reads behind the call as it read before'; 0 by the template 'total and deterministic' (their statements: YtelcpihbdgikfaaTotals.lean).
  GIVEN WITH THE SEED: the statements are not yours to turn. If you find one false, say at which input.
  Laid BY PROGRAM, IN A SANDBOX (cutbox-rows.mjs): the forced cells as the released guide's own fill.sh prints them over the translation 3b1aeb94eea641ba… (all of the seat's roots in one cut). By AI agents, Wed Nov 11 2026. No macro, syntax, notation, axiom, sorry.
-/
import Derived.Test.YtelcpihbdgikfaaChecked
import GoSem.Claim
import GoSem.ClaimJoined
import GoSem.ClaimMapViews
import Derived.JoinedTies
import Derived.KernelRfl
namespace Go.Proofs.Ytelcpihbdgikfaa
/- THE CELL 'sum', in the pinned program and in every row, IS THE sha256 OF THE DUMP (.gsa) THAT YtelcpihbdgikfaaProg.lean LOADS. Nothing in Lean hashes anything: it is a label: what it is worth is what the hold of that sum in a sandbox is worth. -/
noncomputable def Try.pinned : Pinned := { name := "ytelcpihbdgikfaa", sum := "3b1aeb94eea641ba46fadf20e87ca5aa350dd84ae7c4626d9d716c38e0459b38", checked := Try.checked }
namespace Rows
def none {H : Type} : Left H := { results := [], args := [] }

/-- 'laws.FnExactAdvance': WHATEVER THE INPUT: true; the input reads as it did. -/
def fnExactAdvanceSpec : ChangeSpec := { name := "fnExactAdvance", fn := fun _ => fun
  | [d] => { results := [.lit (.bool true)], args := [d] }
  | _ => none }
def fnExactAdvanceRow : OpenClaim := { program := "ytelcpihbdgikfaa", sum := "3b1aeb94eea641ba46fadf20e87ca5aa350dd84ae7c4626d9d716c38e0459b38", func := "loop.example/g00516/laws.FnExactAdvance", spec := "fnExactAdvance", apart := false }
def FnExactAdvanceSaid : Prop := fnExactAdvanceRow.holds Try.pinned (OpenSpec.ofChange fnExactAdvanceSpec)

/-- ITS FALSE NEIGHBOUR: 'it returns false'. Refute it at one input. -/
def fnExactAdvanceWrong : ChangeSpec := { name := "fnExactAdvance", fn := fun _ => fun
  | [d] => { results := [.lit (.bool false)], args := [d] }
  | _ => none }
def FnExactAdvanceWrongFalsely : Prop := fnExactAdvanceRow.holds Try.pinned (OpenSpec.ofChange fnExactAdvanceWrong)

/-- 'laws.FnExactKeyForStep': WHATEVER THE INPUT: true; the input reads as it did. -/
def fnExactKeyForStepSpec : ChangeSpec := { name := "fnExactKeyForStep", fn := fun _ => fun
  | [d1, d2] => { results := [.lit (.bool true)], args := [d1, d2] }
  | _ => none }
def fnExactKeyForStepRow : OpenClaim := { program := "ytelcpihbdgikfaa", sum := "3b1aeb94eea641ba46fadf20e87ca5aa350dd84ae7c4626d9d716c38e0459b38", func := "loop.example/g00516/laws.FnExactKeyForStep", spec := "fnExactKeyForStep", unfollowed := true, recurses := true, apart := false }
def FnExactKeyForStepSaid : Prop := fnExactKeyForStepRow.holds Try.pinned (OpenSpec.ofChange fnExactKeyForStepSpec)

/-- ITS FALSE NEIGHBOUR: 'it returns false'. Refute it at one input. -/
def fnExactKeyForStepWrong : ChangeSpec := { name := "fnExactKeyForStep", fn := fun _ => fun
  | [d1, d2] => { results := [.lit (.bool false)], args := [d1, d2] }
  | _ => none }
def FnExactKeyForStepWrongFalsely : Prop := fnExactKeyForStepRow.holds Try.pinned (OpenSpec.ofChange fnExactKeyForStepWrong)

/-- 'laws.FnExactSealStep': WHATEVER THE INPUT: true; the input reads as it did. -/
def fnExactSealStepSpec : ChangeSpec := { name := "fnExactSealStep", fn := fun _ => fun
  | [d1, d2] => { results := [.lit (.bool true)], args := [d1, d2] }
  | _ => none }
def fnExactSealStepRow : OpenClaim := { program := "ytelcpihbdgikfaa", sum := "3b1aeb94eea641ba46fadf20e87ca5aa350dd84ae7c4626d9d716c38e0459b38", func := "loop.example/g00516/laws.FnExactSealStep", spec := "fnExactSealStep", apart := false }
def FnExactSealStepSaid : Prop := fnExactSealStepRow.holds Try.pinned (OpenSpec.ofChange fnExactSealStepSpec)

/-- ITS FALSE NEIGHBOUR: 'it returns false'. Refute it at one input. -/
def fnExactSealStepWrong : ChangeSpec := { name := "fnExactSealStep", fn := fun _ => fun
  | [d1, d2] => { results := [.lit (.bool false)], args := [d1, d2] }
  | _ => none }
def FnExactSealStepWrongFalsely : Prop := fnExactSealStepRow.holds Try.pinned (OpenSpec.ofChange fnExactSealStepWrong)

/-- 'laws.FnExactOpenStep': WHATEVER THE INPUT: true; the input reads as it did. -/
def fnExactOpenStepSpec : ChangeSpec := { name := "fnExactOpenStep", fn := fun _ => fun
  | [d1, d2, d3] => { results := [.lit (.bool true)], args := [d1, d2, d3] }
  | _ => none }
def fnExactOpenStepRow : OpenClaim := { program := "ytelcpihbdgikfaa", sum := "3b1aeb94eea641ba46fadf20e87ca5aa350dd84ae7c4626d9d716c38e0459b38", func := "loop.example/g00516/laws.FnExactOpenStep", spec := "fnExactOpenStep", unfollowed := true, recurses := true, apart := false }
def FnExactOpenStepSaid : Prop := fnExactOpenStepRow.holds Try.pinned (OpenSpec.ofChange fnExactOpenStepSpec)

/-- ITS FALSE NEIGHBOUR: 'it returns false'. Refute it at one input. -/
def fnExactOpenStepWrong : ChangeSpec := { name := "fnExactOpenStep", fn := fun _ => fun
  | [d1, d2, d3] => { results := [.lit (.bool false)], args := [d1, d2, d3] }
  | _ => none }
def FnExactOpenStepWrongFalsely : Prop := fnExactOpenStepRow.holds Try.pinned (OpenSpec.ofChange fnExactOpenStepWrong)

/-- 'laws.FnExactSendToMailbox': WHATEVER THE INPUT: true; the input reads as it did. -/
def fnExactSendToMailboxSpec : ChangeSpec := { name := "fnExactSendToMailbox", fn := fun _ => fun
  | [d1, d2, d3] => { results := [.lit (.bool true)], args := [d1, d2, d3] }
  | _ => none }
def fnExactSendToMailboxRow : OpenClaim := { program := "ytelcpihbdgikfaa", sum := "3b1aeb94eea641ba46fadf20e87ca5aa350dd84ae7c4626d9d716c38e0459b38", func := "loop.example/g00516/laws.FnExactSendToMailbox", spec := "fnExactSendToMailbox", apart := false }
def FnExactSendToMailboxSaid : Prop := fnExactSendToMailboxRow.holds Try.pinned (OpenSpec.ofChange fnExactSendToMailboxSpec)

/-- ITS FALSE NEIGHBOUR: 'it returns false'. Refute it at one input. -/
def fnExactSendToMailboxWrong : ChangeSpec := { name := "fnExactSendToMailbox", fn := fun _ => fun
  | [d1, d2, d3] => { results := [.lit (.bool false)], args := [d1, d2, d3] }
  | _ => none }
def FnExactSendToMailboxWrongFalsely : Prop := fnExactSendToMailboxRow.holds Try.pinned (OpenSpec.ofChange fnExactSendToMailboxWrong)

/-- 'laws.FnExactReceiveFromMailbox': WHATEVER THE INPUT: true; the input reads as it did. -/
def fnExactReceiveFromMailboxSpec : ChangeSpec := { name := "fnExactReceiveFromMailbox", fn := fun _ => fun
  | [d1, d2, d3] => { results := [.lit (.bool true)], args := [d1, d2, d3] }
  | _ => none }
def fnExactReceiveFromMailboxRow : OpenClaim := { program := "ytelcpihbdgikfaa", sum := "3b1aeb94eea641ba46fadf20e87ca5aa350dd84ae7c4626d9d716c38e0459b38", func := "loop.example/g00516/laws.FnExactReceiveFromMailbox", spec := "fnExactReceiveFromMailbox", apart := false }
def FnExactReceiveFromMailboxSaid : Prop := fnExactReceiveFromMailboxRow.holds Try.pinned (OpenSpec.ofChange fnExactReceiveFromMailboxSpec)

/-- ITS FALSE NEIGHBOUR: 'it returns false'. Refute it at one input. -/
def fnExactReceiveFromMailboxWrong : ChangeSpec := { name := "fnExactReceiveFromMailbox", fn := fun _ => fun
  | [d1, d2, d3] => { results := [.lit (.bool false)], args := [d1, d2, d3] }
  | _ => none }
def FnExactReceiveFromMailboxWrongFalsely : Prop := fnExactReceiveFromMailboxRow.holds Try.pinned (OpenSpec.ofChange fnExactReceiveFromMailboxWrong)

/-- 'laws.FnExactMakeInvitation': WHATEVER THE INPUT: true; the input reads as it did. -/
def fnExactMakeInvitationSpec : ChangeSpec := { name := "fnExactMakeInvitation", fn := fun _ => fun
  | [d1, d2, d3] => { results := [.lit (.bool true)], args := [d1, d2, d3] }
  | _ => none }
def fnExactMakeInvitationRow : OpenClaim := { program := "ytelcpihbdgikfaa", sum := "3b1aeb94eea641ba46fadf20e87ca5aa350dd84ae7c4626d9d716c38e0459b38", func := "loop.example/g00516/laws.FnExactMakeInvitation", spec := "fnExactMakeInvitation", apart := false }
def FnExactMakeInvitationSaid : Prop := fnExactMakeInvitationRow.holds Try.pinned (OpenSpec.ofChange fnExactMakeInvitationSpec)

/-- ITS FALSE NEIGHBOUR: 'it returns false'. Refute it at one input. -/
def fnExactMakeInvitationWrong : ChangeSpec := { name := "fnExactMakeInvitation", fn := fun _ => fun
  | [d1, d2, d3] => { results := [.lit (.bool false)], args := [d1, d2, d3] }
  | _ => none }
def FnExactMakeInvitationWrongFalsely : Prop := fnExactMakeInvitationRow.holds Try.pinned (OpenSpec.ofChange fnExactMakeInvitationWrong)

/-- 'laws.FnExactOpenInvitation': WHATEVER THE INPUT: true; the input reads as it did. -/
def fnExactOpenInvitationSpec : ChangeSpec := { name := "fnExactOpenInvitation", fn := fun _ => fun
  | [d1, d2, d3, d4] => { results := [.lit (.bool true)], args := [d1, d2, d3, d4] }
  | _ => none }
def fnExactOpenInvitationRow : OpenClaim := { program := "ytelcpihbdgikfaa", sum := "3b1aeb94eea641ba46fadf20e87ca5aa350dd84ae7c4626d9d716c38e0459b38", func := "loop.example/g00516/laws.FnExactOpenInvitation", spec := "fnExactOpenInvitation", apart := false }
def FnExactOpenInvitationSaid : Prop := fnExactOpenInvitationRow.holds Try.pinned (OpenSpec.ofChange fnExactOpenInvitationSpec)

/-- ITS FALSE NEIGHBOUR: 'it returns false'. Refute it at one input. -/
def fnExactOpenInvitationWrong : ChangeSpec := { name := "fnExactOpenInvitation", fn := fun _ => fun
  | [d1, d2, d3, d4] => { results := [.lit (.bool false)], args := [d1, d2, d3, d4] }
  | _ => none }
def FnExactOpenInvitationWrongFalsely : Prop := fnExactOpenInvitationRow.holds Try.pinned (OpenSpec.ofChange fnExactOpenInvitationWrong)

/-- 'laws.FnMailboxes': WHATEVER THE INPUT: true; the input reads as it did. -/
def fnMailboxesSpec : ChangeSpec := { name := "fnMailboxes", fn := fun _ => fun
  | [d] => { results := [.lit (.bool true)], args := [d] }
  | _ => none }
def fnMailboxesRow : OpenClaim := { program := "ytelcpihbdgikfaa", sum := "3b1aeb94eea641ba46fadf20e87ca5aa350dd84ae7c4626d9d716c38e0459b38", func := "loop.example/g00516/laws.FnMailboxes", spec := "fnMailboxes", apart := false }
def FnMailboxesSaid : Prop := fnMailboxesRow.holds Try.pinned (OpenSpec.ofChange fnMailboxesSpec)

/-- ITS FALSE NEIGHBOUR: 'it returns false'. Refute it at one input. -/
def fnMailboxesWrong : ChangeSpec := { name := "fnMailboxes", fn := fun _ => fun
  | [d] => { results := [.lit (.bool false)], args := [d] }
  | _ => none }
def FnMailboxesWrongFalsely : Prop := fnMailboxesRow.holds Try.pinned (OpenSpec.ofChange fnMailboxesWrong)

/-- 'laws.FnRatchets': WHATEVER THE INPUT: true; the input reads as it did. -/
def fnRatchetsSpec : ChangeSpec := { name := "fnRatchets", fn := fun _ => fun
  | [d] => { results := [.lit (.bool true)], args := [d] }
  | _ => none }
def fnRatchetsRow : OpenClaim := { program := "ytelcpihbdgikfaa", sum := "3b1aeb94eea641ba46fadf20e87ca5aa350dd84ae7c4626d9d716c38e0459b38", func := "loop.example/g00516/laws.FnRatchets", spec := "fnRatchets", unfollowed := true, recurses := true, apart := false }
def FnRatchetsSaid : Prop := fnRatchetsRow.holds Try.pinned (OpenSpec.ofChange fnRatchetsSpec)

/-- ITS FALSE NEIGHBOUR: 'it returns false'. Refute it at one input. -/
def fnRatchetsWrong : ChangeSpec := { name := "fnRatchets", fn := fun _ => fun
  | [d] => { results := [.lit (.bool false)], args := [d] }
  | _ => none }
def FnRatchetsWrongFalsely : Prop := fnRatchetsRow.holds Try.pinned (OpenSpec.ofChange fnRatchetsWrong)

/-- 'laws.FnDialing': WHATEVER THE INPUT: true; the input reads as it did. -/
def fnDialingSpec : ChangeSpec := { name := "fnDialing", fn := fun _ => fun
  | [d] => { results := [.lit (.bool true)], args := [d] }
  | _ => none }
def fnDialingRow : OpenClaim := { program := "ytelcpihbdgikfaa", sum := "3b1aeb94eea641ba46fadf20e87ca5aa350dd84ae7c4626d9d716c38e0459b38", func := "loop.example/g00516/laws.FnDialing", spec := "fnDialing", apart := false }
def FnDialingSaid : Prop := fnDialingRow.holds Try.pinned (OpenSpec.ofChange fnDialingSpec)

/-- ITS FALSE NEIGHBOUR: 'it returns false'. Refute it at one input. -/
def fnDialingWrong : ChangeSpec := { name := "fnDialing", fn := fun _ => fun
  | [d] => { results := [.lit (.bool false)], args := [d] }
  | _ => none }
def FnDialingWrongFalsely : Prop := fnDialingRow.holds Try.pinned (OpenSpec.ofChange fnDialingWrong)

/-- 'laws.FnSkippedKeys': WHATEVER THE INPUT: true; the input reads as it did. -/
def fnSkippedKeysSpec : ChangeSpec := { name := "fnSkippedKeys", fn := fun _ => fun
  | [d] => { results := [.lit (.bool true)], args := [d] }
  | _ => none }
def fnSkippedKeysRow : OpenClaim := { program := "ytelcpihbdgikfaa", sum := "3b1aeb94eea641ba46fadf20e87ca5aa350dd84ae7c4626d9d716c38e0459b38", func := "loop.example/g00516/laws.FnSkippedKeys", spec := "fnSkippedKeys", unfollowed := true, recurses := true, apart := false }
def FnSkippedKeysSaid : Prop := fnSkippedKeysRow.holds Try.pinned (OpenSpec.ofChange fnSkippedKeysSpec)

/-- ITS FALSE NEIGHBOUR: 'it returns false'. Refute it at one input. -/
def fnSkippedKeysWrong : ChangeSpec := { name := "fnSkippedKeys", fn := fun _ => fun
  | [d] => { results := [.lit (.bool false)], args := [d] }
  | _ => none }
def FnSkippedKeysWrongFalsely : Prop := fnSkippedKeysRow.holds Try.pinned (OpenSpec.ofChange fnSkippedKeysWrong)

/- THE SECOND FORM. 'bulk': how many values and letters a reading holds, each counted each time it is reached (what is shared counts as often as it is met; a slice's spare places count too). A statement '..UptoSaid' is the law's where the arguments, and the package variables that the reading takes, are together of bulk at most 1048576: NARROWER than '..Said'. Prove '..Said' where nothing that the law and all that it calls make is longer than what came in: it says more and counts as full. Else prove '..UptoSaid'. A law counts once. -/
mutual
def uptoBulk {H : Type} : DataW H → Nat
  | .lit (.string bytes) => bytes.length + 1
  | .lit _ => 1
  | .nil => 1
  | .ptr d => uptoBulk d + 1
  | .slice elems spare => uptoBulkAll elems + uptoBulkAll spare + 1
  | .agg parts => uptoBulkAll parts + 1
  | .iface _ d => uptoBulk d + 1
  | .map entries => uptoBulkEntries entries + 1
  | .held _ => 1
def uptoBulkAll {H : Type} : List (DataW H) → Nat
  | [] => 0
  | d :: r => uptoBulk d + uptoBulkAll r
def uptoBulkEntries {H : Type} : List (Lit × DataW H) → Nat
  | [] => 0
  | x :: r => uptoBulkEntry x + uptoBulkEntries r
def uptoBulkEntry {H : Type} : Lit × DataW H → Nat
  | (.string bytes, d) => bytes.length + uptoBulk d + 1
  | (_, d) => uptoBulk d + 1
 end
def uptoSmall : (H : Type) → List (DataW H) → Bool := fun _ ds => decide (uptoBulkAll ds ≤ 1048576)
def OpenSpec.upto (s : _root_.Go.ChangeSpec) : _root_.Go.OpenSpec := { _root_.Go.OpenSpec.ofChange s with cond := some uptoSmall }

/-- 'laws.FnExactAdvance', WHERE WHAT IT READS IS OF BULK AT MOST 1048576: true; the input reads as it did. -/
def fnExactAdvanceUptoRow : OpenClaim := { program := "ytelcpihbdgikfaa", sum := "3b1aeb94eea641ba46fadf20e87ca5aa350dd84ae7c4626d9d716c38e0459b38", func := "loop.example/g00516/laws.FnExactAdvance", spec := "fnExactAdvance", apart := false, narrowed := true }
def FnExactAdvanceUptoSaid : Prop := fnExactAdvanceUptoRow.holds Try.pinned (OpenSpec.upto fnExactAdvanceSpec)

/-- 'laws.FnExactKeyForStep', WHERE WHAT IT READS IS OF BULK AT MOST 1048576: true; the input reads as it did. -/
def fnExactKeyForStepUptoRow : OpenClaim := { program := "ytelcpihbdgikfaa", sum := "3b1aeb94eea641ba46fadf20e87ca5aa350dd84ae7c4626d9d716c38e0459b38", func := "loop.example/g00516/laws.FnExactKeyForStep", spec := "fnExactKeyForStep", unfollowed := true, recurses := true, apart := false, narrowed := true }
def FnExactKeyForStepUptoSaid : Prop := fnExactKeyForStepUptoRow.holds Try.pinned (OpenSpec.upto fnExactKeyForStepSpec)

/-- 'laws.FnExactSealStep', WHERE WHAT IT READS IS OF BULK AT MOST 1048576: true; the input reads as it did. -/
def fnExactSealStepUptoRow : OpenClaim := { program := "ytelcpihbdgikfaa", sum := "3b1aeb94eea641ba46fadf20e87ca5aa350dd84ae7c4626d9d716c38e0459b38", func := "loop.example/g00516/laws.FnExactSealStep", spec := "fnExactSealStep", apart := false, narrowed := true }
def FnExactSealStepUptoSaid : Prop := fnExactSealStepUptoRow.holds Try.pinned (OpenSpec.upto fnExactSealStepSpec)

/-- 'laws.FnExactOpenStep', WHERE WHAT IT READS IS OF BULK AT MOST 1048576: true; the input reads as it did. -/
def fnExactOpenStepUptoRow : OpenClaim := { program := "ytelcpihbdgikfaa", sum := "3b1aeb94eea641ba46fadf20e87ca5aa350dd84ae7c4626d9d716c38e0459b38", func := "loop.example/g00516/laws.FnExactOpenStep", spec := "fnExactOpenStep", unfollowed := true, recurses := true, apart := false, narrowed := true }
def FnExactOpenStepUptoSaid : Prop := fnExactOpenStepUptoRow.holds Try.pinned (OpenSpec.upto fnExactOpenStepSpec)

/-- 'laws.FnExactSendToMailbox', WHERE WHAT IT READS IS OF BULK AT MOST 1048576: true; the input reads as it did. -/
def fnExactSendToMailboxUptoRow : OpenClaim := { program := "ytelcpihbdgikfaa", sum := "3b1aeb94eea641ba46fadf20e87ca5aa350dd84ae7c4626d9d716c38e0459b38", func := "loop.example/g00516/laws.FnExactSendToMailbox", spec := "fnExactSendToMailbox", apart := false, narrowed := true }
def FnExactSendToMailboxUptoSaid : Prop := fnExactSendToMailboxUptoRow.holds Try.pinned (OpenSpec.upto fnExactSendToMailboxSpec)

/-- 'laws.FnExactReceiveFromMailbox', WHERE WHAT IT READS IS OF BULK AT MOST 1048576: true; the input reads as it did. -/
def fnExactReceiveFromMailboxUptoRow : OpenClaim := { program := "ytelcpihbdgikfaa", sum := "3b1aeb94eea641ba46fadf20e87ca5aa350dd84ae7c4626d9d716c38e0459b38", func := "loop.example/g00516/laws.FnExactReceiveFromMailbox", spec := "fnExactReceiveFromMailbox", apart := false, narrowed := true }
def FnExactReceiveFromMailboxUptoSaid : Prop := fnExactReceiveFromMailboxUptoRow.holds Try.pinned (OpenSpec.upto fnExactReceiveFromMailboxSpec)

/-- 'laws.FnExactMakeInvitation', WHERE WHAT IT READS IS OF BULK AT MOST 1048576: true; the input reads as it did. -/
def fnExactMakeInvitationUptoRow : OpenClaim := { program := "ytelcpihbdgikfaa", sum := "3b1aeb94eea641ba46fadf20e87ca5aa350dd84ae7c4626d9d716c38e0459b38", func := "loop.example/g00516/laws.FnExactMakeInvitation", spec := "fnExactMakeInvitation", apart := false, narrowed := true }
def FnExactMakeInvitationUptoSaid : Prop := fnExactMakeInvitationUptoRow.holds Try.pinned (OpenSpec.upto fnExactMakeInvitationSpec)

/-- 'laws.FnExactOpenInvitation', WHERE WHAT IT READS IS OF BULK AT MOST 1048576: true; the input reads as it did. -/
def fnExactOpenInvitationUptoRow : OpenClaim := { program := "ytelcpihbdgikfaa", sum := "3b1aeb94eea641ba46fadf20e87ca5aa350dd84ae7c4626d9d716c38e0459b38", func := "loop.example/g00516/laws.FnExactOpenInvitation", spec := "fnExactOpenInvitation", apart := false, narrowed := true }
def FnExactOpenInvitationUptoSaid : Prop := fnExactOpenInvitationUptoRow.holds Try.pinned (OpenSpec.upto fnExactOpenInvitationSpec)

/-- 'laws.FnMailboxes', WHERE WHAT IT READS IS OF BULK AT MOST 1048576: true; the input reads as it did. -/
def fnMailboxesUptoRow : OpenClaim := { program := "ytelcpihbdgikfaa", sum := "3b1aeb94eea641ba46fadf20e87ca5aa350dd84ae7c4626d9d716c38e0459b38", func := "loop.example/g00516/laws.FnMailboxes", spec := "fnMailboxes", apart := false, narrowed := true }
def FnMailboxesUptoSaid : Prop := fnMailboxesUptoRow.holds Try.pinned (OpenSpec.upto fnMailboxesSpec)

/-- 'laws.FnRatchets', WHERE WHAT IT READS IS OF BULK AT MOST 1048576: true; the input reads as it did. -/
def fnRatchetsUptoRow : OpenClaim := { program := "ytelcpihbdgikfaa", sum := "3b1aeb94eea641ba46fadf20e87ca5aa350dd84ae7c4626d9d716c38e0459b38", func := "loop.example/g00516/laws.FnRatchets", spec := "fnRatchets", unfollowed := true, recurses := true, apart := false, narrowed := true }
def FnRatchetsUptoSaid : Prop := fnRatchetsUptoRow.holds Try.pinned (OpenSpec.upto fnRatchetsSpec)

/-- 'laws.FnDialing', WHERE WHAT IT READS IS OF BULK AT MOST 1048576: true; the input reads as it did. -/
def fnDialingUptoRow : OpenClaim := { program := "ytelcpihbdgikfaa", sum := "3b1aeb94eea641ba46fadf20e87ca5aa350dd84ae7c4626d9d716c38e0459b38", func := "loop.example/g00516/laws.FnDialing", spec := "fnDialing", apart := false, narrowed := true }
def FnDialingUptoSaid : Prop := fnDialingUptoRow.holds Try.pinned (OpenSpec.upto fnDialingSpec)

/-- 'laws.FnSkippedKeys', WHERE WHAT IT READS IS OF BULK AT MOST 1048576: true; the input reads as it did. -/
def fnSkippedKeysUptoRow : OpenClaim := { program := "ytelcpihbdgikfaa", sum := "3b1aeb94eea641ba46fadf20e87ca5aa350dd84ae7c4626d9d716c38e0459b38", func := "loop.example/g00516/laws.FnSkippedKeys", spec := "fnSkippedKeys", unfollowed := true, recurses := true, apart := false, narrowed := true }
def FnSkippedKeysUptoSaid : Prop := fnSkippedKeysUptoRow.holds Try.pinned (OpenSpec.upto fnSkippedKeysSpec)

end Rows
end Go.Proofs.Ytelcpihbdgikfaa
