/-
  DERIVED. GIVEN WITH THE SEED: THE CARDS: each row of YtfcjhpmcconafaaDoorRows.lean that lists a variable, with what it lists TIED to the program's text (the seventh form; the later family's looks); each row that meets fmt, with fmt's text TOLD by the authors' own Lean function (tested against real Go, not proved from fmt's source: count such statements apart). THE CARD IS WHAT COUNTS. Prove the row's statement (the work); the ties are given (YtfcjhpmcconafaaDoorTie.lean); close each card by the builder's one call (the guide's Derived/Test/ToyasCard.lean, 'card_holds'). Laid BY PROGRAM, IN A SANDBOX (cutbox-door.mjs). By AI agents, Wed Nov 11 2026. No macro, syntax, notation, axiom, sorry.
-/
import Derived.Test.YtfcjhpmcconafaaDoorRows
import GoSem.ClaimSeven
namespace Go.Proofs.YtfcjhpmcconafaaDoor
namespace Rows

/-- THE TIED CARD OF 'laws.FnExactShuffleBy'. -/
def fnExactShuffleByCard : Claim7 := { stood := { row := fnExactShuffleByRow, standIns := [], harness := (true, "bc2afcb47bd5cd5487e664d1542fd0b70396332051b459d23fea465859fb807a"), looks := false }, kinds := [], alts := [], laidByText := true, laidKinds := [.data, .data, .data], laidTests := true, laidLooks := .later }
def FnExactShuffleByCardSaid : Prop := Claim7.holds Tryd.pinned (.plain (OpenSpec.ofChange fnExactShuffleBySpec)) fnExactShuffleByCard

/-- THE TIED CARD OF 'laws.FnLots'. -/
def fnLotsCard : Claim7 := { stood := { row := fnLotsRow, standIns := [], harness := (true, "bc2afcb47bd5cd5487e664d1542fd0b70396332051b459d23fea465859fb807a"), looks := false }, kinds := [], alts := [], laidByText := true, laidKinds := [.data, .data, .data], laidTests := true, laidLooks := .later }
def FnLotsCardSaid : Prop := Claim7.holds Tryd.pinned (.plain (OpenSpec.ofChange fnLotsSpec)) fnLotsCard

/-- THE SECOND FORM's CARD OF 'laws.FnExactShuffleBy'. -/
def fnExactShuffleByUptoCard : Claim7 := { stood := { row := fnExactShuffleByUptoRow, standIns := [], harness := (true, "bc2afcb47bd5cd5487e664d1542fd0b70396332051b459d23fea465859fb807a"), looks := false }, kinds := [], alts := [], laidByText := true, laidKinds := [.data, .data, .data], laidTests := true, laidLooks := .later }
def FnExactShuffleByUptoCardSaid : Prop := Claim7.holds Tryd.pinned (.plain (OpenSpec.upto fnExactShuffleBySpec)) fnExactShuffleByUptoCard

/-- THE SECOND FORM's CARD OF 'laws.FnLots'. -/
def fnLotsUptoCard : Claim7 := { stood := { row := fnLotsUptoRow, standIns := [], harness := (true, "bc2afcb47bd5cd5487e664d1542fd0b70396332051b459d23fea465859fb807a"), looks := false }, kinds := [], alts := [], laidByText := true, laidKinds := [.data, .data, .data], laidTests := true, laidLooks := .later }
def FnLotsUptoCardSaid : Prop := Claim7.holds Tryd.pinned (.plain (OpenSpec.upto fnLotsSpec)) fnLotsUptoCard
end Rows
end Go.Proofs.YtfcjhpmcconafaaDoor
