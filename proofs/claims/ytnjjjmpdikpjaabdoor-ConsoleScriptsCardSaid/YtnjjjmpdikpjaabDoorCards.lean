/-
  DERIVED. GIVEN WITH THE SEED: THE CARDS: each row of YtnjjjmpdikpjaabDoorRows.lean that lists a variable, with what it lists TIED to the program's text (the seventh form; the later family's looks); each row that meets fmt, with fmt's text TOLD by the authors' own Lean function (tested against real Go, not proved from fmt's source: count such statements apart). THE CARD IS WHAT COUNTS. Prove the row's statement (the work); the ties are given (YtnjjjmpdikpjaabDoorTie.lean); close each card by the builder's one call (the guide's Derived/Test/ToyasCard.lean, 'card_holds'). Laid BY PROGRAM, IN A SANDBOX (cutbox-door.mjs). By AI agents, Wed Nov 11 2026. No macro, syntax, notation, axiom, sorry.
-/
import Derived.Test.YtnjjjmpdikpjaabDoorRows
import GoSem.ClaimSeven
namespace Go.Proofs.YtnjjjmpdikpjaabDoor
namespace Rows

/-- THE TIED CARD OF 'tattinglaw43.ConsoleReads'. -/
def consoleReadsCard : Claim7 := { stood := { row := consoleReadsRow, standIns := [], harness := (true, "ffbc6d3b0dd33f867bb668e6d6dd417e194e33490d0e448336c92315e527cda5"), looks := true }, kinds := [], alts := [], laidByText := true, laidKinds := [.data, .data, .data, .data, .sentinel, .sentinel, .pinned], laidTests := true, laidLooks := .later }
def ConsoleReadsCardSaid : Prop := Claim7.holds Tryd.pinned (.plain (OpenSpec.ofChange consoleReadsSpec)) consoleReadsCard

/-- THE TIED CARD OF 'tattinglaw43.ConsoleLines'. -/
def consoleLinesCard : Claim7 := { stood := { row := consoleLinesRow, standIns := [], harness := (true, "ffbc6d3b0dd33f867bb668e6d6dd417e194e33490d0e448336c92315e527cda5"), looks := true }, kinds := [], alts := [], laidByText := true, laidKinds := [.data, .data, .data, .data, .sentinel, .sentinel, .pinned], laidTests := true, laidLooks := .later }
def ConsoleLinesCardSaid : Prop := Claim7.holds Tryd.pinned (.plain (OpenSpec.ofChange consoleLinesSpec)) consoleLinesCard

/-- THE TIED CARD OF 'tattinglaw43.ConsoleScripts'. -/
def consoleScriptsCard : Claim7 := { stood := { row := consoleScriptsRow, standIns := [], harness := (true, "ffbc6d3b0dd33f867bb668e6d6dd417e194e33490d0e448336c92315e527cda5"), looks := true }, kinds := [], alts := [], laidByText := true, laidKinds := [.data, .data, .data, .data, .sentinel, .sentinel, .pinned], laidTests := true, laidLooks := .later }
def ConsoleScriptsCardSaid : Prop := Claim7.holds Tryd.pinned (.plain (OpenSpec.ofChange consoleScriptsSpec)) consoleScriptsCard

/-- THE SECOND FORM's CARD OF 'tattinglaw43.ConsoleReads'. -/
def consoleReadsUptoCard : Claim7 := { stood := { row := consoleReadsUptoRow, standIns := [], harness := (true, "ffbc6d3b0dd33f867bb668e6d6dd417e194e33490d0e448336c92315e527cda5"), looks := true }, kinds := [], alts := [], laidByText := true, laidKinds := [.data, .data, .data, .data, .sentinel, .sentinel, .pinned], laidTests := true, laidLooks := .later }
def ConsoleReadsUptoCardSaid : Prop := Claim7.holds Tryd.pinned (.plain (OpenSpec.upto consoleReadsSpec)) consoleReadsUptoCard

/-- THE SECOND FORM's CARD OF 'tattinglaw43.ConsoleLines'. -/
def consoleLinesUptoCard : Claim7 := { stood := { row := consoleLinesUptoRow, standIns := [], harness := (true, "ffbc6d3b0dd33f867bb668e6d6dd417e194e33490d0e448336c92315e527cda5"), looks := true }, kinds := [], alts := [], laidByText := true, laidKinds := [.data, .data, .data, .data, .sentinel, .sentinel, .pinned], laidTests := true, laidLooks := .later }
def ConsoleLinesUptoCardSaid : Prop := Claim7.holds Tryd.pinned (.plain (OpenSpec.upto consoleLinesSpec)) consoleLinesUptoCard

/-- THE SECOND FORM's CARD OF 'tattinglaw43.ConsoleScripts'. -/
def consoleScriptsUptoCard : Claim7 := { stood := { row := consoleScriptsUptoRow, standIns := [], harness := (true, "ffbc6d3b0dd33f867bb668e6d6dd417e194e33490d0e448336c92315e527cda5"), looks := true }, kinds := [], alts := [], laidByText := true, laidKinds := [.data, .data, .data, .data, .sentinel, .sentinel, .pinned], laidTests := true, laidLooks := .later }
def ConsoleScriptsUptoCardSaid : Prop := Claim7.holds Tryd.pinned (.plain (OpenSpec.upto consoleScriptsSpec)) consoleScriptsUptoCard
end Rows
end Go.Proofs.YtnjjjmpdikpjaabDoor
