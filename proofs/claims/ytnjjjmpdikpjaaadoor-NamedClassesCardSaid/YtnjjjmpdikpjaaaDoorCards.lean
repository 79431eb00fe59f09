/-
  DERIVED. GIVEN WITH THE SEED: THE CARDS: each row of YtnjjjmpdikpjaaaDoorRows.lean that lists a variable, with what it lists TIED to the program's text (the seventh form; the later family's looks); each row that meets fmt, with fmt's text TOLD by the authors' own Lean function (tested against real Go, not proved from fmt's source: count such statements apart). THE CARD IS WHAT COUNTS. Prove the row's statement (the work); the ties are given (YtnjjjmpdikpjaaaDoorTie.lean); close each card by the builder's one call (the guide's Derived/Test/ToyasCard.lean, 'card_holds'). Laid BY PROGRAM, IN A SANDBOX (cutbox-door.mjs). By AI agents, Wed Nov 11 2026. No macro, syntax, notation, axiom, sorry.
-/
import Derived.Test.YtnjjjmpdikpjaaaDoorRows
import GoSem.ClaimSeven
namespace Go.Proofs.YtnjjjmpdikpjaaaDoor
namespace Rows

/-- THE TIED CARD OF 'tattinglaw02.NamedFolds'. -/
def namedFoldsCard : Claim7 := { stood := { row := namedFoldsRow, standIns := [], harness := (true, "e8c33a4724fd020e31ffcd496cca14bea2b53d01967648f700496c547a38884b"), looks := false }, kinds := [], alts := [], laidByText := true, laidKinds := [.data], laidTests := true, laidLooks := .later }
def NamedFoldsCardSaid : Prop := Claim7.holds Tryd.pinned (.plain (OpenSpec.ofChange namedFoldsSpec)) namedFoldsCard

/-- THE TIED CARD OF 'tattinglaw02.NamedEscapes'. -/
def namedEscapesCard : Claim7 := { stood := { row := namedEscapesRow, standIns := [], harness := (true, "e8c33a4724fd020e31ffcd496cca14bea2b53d01967648f700496c547a38884b"), looks := false }, kinds := [], alts := [], laidByText := true, laidKinds := [.data], laidTests := true, laidLooks := .later }
def NamedEscapesCardSaid : Prop := Claim7.holds Tryd.pinned (.plain (OpenSpec.ofChange namedEscapesSpec)) namedEscapesCard

/-- THE TIED CARD OF 'tattinglaw02.NamedClasses'. -/
def namedClassesCard : Claim7 := { stood := { row := namedClassesRow, standIns := [], harness := (true, "e8c33a4724fd020e31ffcd496cca14bea2b53d01967648f700496c547a38884b"), looks := false }, kinds := [], alts := [], laidByText := true, laidKinds := [.data], laidTests := true, laidLooks := .later }
def NamedClassesCardSaid : Prop := Claim7.holds Tryd.pinned (.plain (OpenSpec.ofChange namedClassesSpec)) namedClassesCard

/-- THE SECOND FORM's CARD OF 'tattinglaw02.NamedFolds'. -/
def namedFoldsUptoCard : Claim7 := { stood := { row := namedFoldsUptoRow, standIns := [], harness := (true, "e8c33a4724fd020e31ffcd496cca14bea2b53d01967648f700496c547a38884b"), looks := false }, kinds := [], alts := [], laidByText := true, laidKinds := [.data], laidTests := true, laidLooks := .later }
def NamedFoldsUptoCardSaid : Prop := Claim7.holds Tryd.pinned (.plain (OpenSpec.upto namedFoldsSpec)) namedFoldsUptoCard

/-- THE SECOND FORM's CARD OF 'tattinglaw02.NamedEscapes'. -/
def namedEscapesUptoCard : Claim7 := { stood := { row := namedEscapesUptoRow, standIns := [], harness := (true, "e8c33a4724fd020e31ffcd496cca14bea2b53d01967648f700496c547a38884b"), looks := false }, kinds := [], alts := [], laidByText := true, laidKinds := [.data], laidTests := true, laidLooks := .later }
def NamedEscapesUptoCardSaid : Prop := Claim7.holds Tryd.pinned (.plain (OpenSpec.upto namedEscapesSpec)) namedEscapesUptoCard

/-- THE SECOND FORM's CARD OF 'tattinglaw02.NamedClasses'. -/
def namedClassesUptoCard : Claim7 := { stood := { row := namedClassesUptoRow, standIns := [], harness := (true, "e8c33a4724fd020e31ffcd496cca14bea2b53d01967648f700496c547a38884b"), looks := false }, kinds := [], alts := [], laidByText := true, laidKinds := [.data], laidTests := true, laidLooks := .later }
def NamedClassesUptoCardSaid : Prop := Claim7.holds Tryd.pinned (.plain (OpenSpec.upto namedClassesSpec)) namedClassesUptoCard
end Rows
end Go.Proofs.YtnjjjmpdikpjaaaDoor
