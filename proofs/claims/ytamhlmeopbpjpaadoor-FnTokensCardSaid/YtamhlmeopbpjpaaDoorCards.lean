/-
  DERIVED. GIVEN WITH THE SEED: THE CARDS: each row of YtamhlmeopbpjpaaDoorRows.lean that lists a variable, with what it lists TIED to the program's text (the seventh form; the later family's looks); each row that meets fmt, with fmt's text TOLD by the authors' own Lean function (tested against real Go, not proved from fmt's source: count such statements apart). THE CARD IS WHAT COUNTS. Prove the row's statement (the work); the ties are given (YtamhlmeopbpjpaaDoorTie.lean); close each card by the builder's one call (the guide's Derived/Test/ToyasCard.lean, 'card_holds'). Laid BY PROGRAM, IN A SANDBOX (cutbox-door.mjs). By AI agents, Wed Nov 11 2026. No macro, syntax, notation, axiom, sorry.
-/
import Derived.Test.YtamhlmeopbpjpaaDoorRows
import GoSem.ClaimSeven
namespace Go.Proofs.YtamhlmeopbpjpaaDoor
namespace Rows

/-- THE TIED CARD OF 'laws.FnExactFormatToken'. -/
def fnExactFormatTokenCard : Claim7 := { stood := { row := fnExactFormatTokenRow, standIns := [], harness := (true, "0a9176cd99ade766fbfe13c05a4464f9cad269fc71d4ef8a44b3e0f95714df89"), looks := false }, kinds := [], alts := [], laidByText := true, laidKinds := [.data, .data, .data], laidTests := true, laidLooks := .later }
def FnExactFormatTokenCardSaid : Prop := Claim7.holds Tryd.pinned (.plain (OpenSpec.ofChange fnExactFormatTokenSpec)) fnExactFormatTokenCard

/-- THE TIED CARD OF 'laws.FnTokens'. -/
def fnTokensCard : Claim7 := { stood := { row := fnTokensRow, standIns := [], harness := (true, "0a9176cd99ade766fbfe13c05a4464f9cad269fc71d4ef8a44b3e0f95714df89"), looks := false }, kinds := [], alts := [], laidByText := true, laidKinds := [.data, .data, .data], laidTests := true, laidLooks := .later }
def FnTokensCardSaid : Prop := Claim7.holds Tryd.pinned (.plain (OpenSpec.ofChange fnTokensSpec)) fnTokensCard

/-- THE SECOND FORM's CARD OF 'laws.FnExactFormatToken'. -/
def fnExactFormatTokenUptoCard : Claim7 := { stood := { row := fnExactFormatTokenUptoRow, standIns := [], harness := (true, "0a9176cd99ade766fbfe13c05a4464f9cad269fc71d4ef8a44b3e0f95714df89"), looks := false }, kinds := [], alts := [], laidByText := true, laidKinds := [.data, .data, .data], laidTests := true, laidLooks := .later }
def FnExactFormatTokenUptoCardSaid : Prop := Claim7.holds Tryd.pinned (.plain (OpenSpec.upto fnExactFormatTokenSpec)) fnExactFormatTokenUptoCard

/-- THE SECOND FORM's CARD OF 'laws.FnTokens'. -/
def fnTokensUptoCard : Claim7 := { stood := { row := fnTokensUptoRow, standIns := [], harness := (true, "0a9176cd99ade766fbfe13c05a4464f9cad269fc71d4ef8a44b3e0f95714df89"), looks := false }, kinds := [], alts := [], laidByText := true, laidKinds := [.data, .data, .data], laidTests := true, laidLooks := .later }
def FnTokensUptoCardSaid : Prop := Claim7.holds Tryd.pinned (.plain (OpenSpec.upto fnTokensSpec)) fnTokensUptoCard
end Rows
end Go.Proofs.YtamhlmeopbpjpaaDoor
