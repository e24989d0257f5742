/-
  DERIVED. GIVEN WITH THE SEED: THE CARDS: each row of YtjbjbeihkoeciaaDoorRows.lean that lists a variable, with what it lists TIED to the program's text (the seventh form; the later family's looks); each row that meets fmt, with fmt's text TOLD by the authors' own Lean function (tested against real Go, not proved from fmt's source: count such statements apart). THE CARD IS WHAT COUNTS. Prove the row's statement (the work); the ties are given (YtjbjbeihkoeciaaDoorTie.lean); close each card by the builder's one call (the guide's Derived/Test/ToyasCard.lean, 'card_holds'). Laid BY PROGRAM, IN A SANDBOX (cutbox-door.mjs). By AI agents, Wed Nov 11 2026. No macro, syntax, notation, axiom, sorry.
-/
import Derived.Test.YtjbjbeihkoeciaaDoorRows
import GoSem.ClaimSeven
namespace Go.Proofs.YtjbjbeihkoeciaaDoor
namespace Rows

/-- THE TIED CARD OF 'hucksterlaw17.ShowTexts'. -/
def showTextsCard : Claim7 := { stood := { row := showTextsRow, standIns := [], harness := (true, "82a204104de9b69e72435ed521939383be91e0f09ee329c3f44dc57094f167e1"), looks := false }, kinds := [], alts := [], laidByText := true, laidKinds := [.data, .data, .data], laidTests := true, laidLooks := .later }
def ShowTextsCardSaid : Prop := Claim7.holds Tryd.pinned (.plain (OpenSpec.ofChange showTextsSpec)) showTextsCard

/-- THE TIED CARD OF 'hucksterlaw20.WpTold'. -/
def wpToldCard : Claim7 := { stood := { row := wpToldRow, standIns := [], harness := (true, "82a204104de9b69e72435ed521939383be91e0f09ee329c3f44dc57094f167e1"), looks := false }, kinds := [], alts := [], laidByText := true, laidKinds := [.data, .data, .data], laidTests := true, laidLooks := .later }
def WpToldCardSaid : Prop := Claim7.holds Tryd.pinned (.plain (OpenSpec.ofChange wpToldSpec)) wpToldCard

/-- THE SECOND FORM's CARD OF 'hucksterlaw17.ShowTexts'. -/
def showTextsUptoCard : Claim7 := { stood := { row := showTextsUptoRow, standIns := [], harness := (true, "82a204104de9b69e72435ed521939383be91e0f09ee329c3f44dc57094f167e1"), looks := false }, kinds := [], alts := [], laidByText := true, laidKinds := [.data, .data, .data], laidTests := true, laidLooks := .later }
def ShowTextsUptoCardSaid : Prop := Claim7.holds Tryd.pinned (.plain (OpenSpec.upto showTextsSpec)) showTextsUptoCard

/-- THE SECOND FORM's CARD OF 'hucksterlaw20.WpTold'. -/
def wpToldUptoCard : Claim7 := { stood := { row := wpToldUptoRow, standIns := [], harness := (true, "82a204104de9b69e72435ed521939383be91e0f09ee329c3f44dc57094f167e1"), looks := false }, kinds := [], alts := [], laidByText := true, laidKinds := [.data, .data, .data], laidTests := true, laidLooks := .later }
def WpToldUptoCardSaid : Prop := Claim7.holds Tryd.pinned (.plain (OpenSpec.upto wpToldSpec)) wpToldUptoCard
end Rows
end Go.Proofs.YtjbjbeihkoeciaaDoor
