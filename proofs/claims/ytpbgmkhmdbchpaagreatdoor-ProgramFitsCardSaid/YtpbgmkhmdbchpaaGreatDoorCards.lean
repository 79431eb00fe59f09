/-
  DERIVED. GIVEN WITH THE SEED: THE CARDS: each row of YtpbgmkhmdbchpaaGreatDoorRows.lean that lists a variable, with what it lists TIED to the program's text (the seventh form; the later family's looks); each row that meets fmt, with fmt's text TOLD by the authors' own Lean function (tested against real Go, not proved from fmt's source: count such statements apart). THE CARD IS WHAT COUNTS. Prove the row's statement (the work); the ties are given (YtpbgmkhmdbchpaaGreatDoorTie.lean); close each card by the builder's one call (the guide's Derived/Test/ToyasCard.lean, 'card_holds'). Laid BY PROGRAM, IN A SANDBOX (cutbox-door.mjs). By AI agents, Wed Nov 11 2026. No macro, syntax, notation, axiom, sorry.
-/
import Derived.Test.YtpbgmkhmdbchpaaGreatDoorRows
import GoSem.ClaimSeven
namespace Go.Proofs.YtpbgmkhmdbchpaaGreatDoor
namespace Rows

/-- THE TIED CARD OF 'tattinglaw15.ProgramCompiles'. -/
def programCompilesCard : Claim7 := { stood := { row := programCompilesRow, standIns := [], harness := (true, "1f42cf79b17d3087fb53cef0632e8765a7447dfe06b6cbb8c8ba2dc2905c1601"), looks := false }, kinds := [], alts := [], laidByText := true, laidKinds := [.data], laidTests := true, laidLooks := .later }
def ProgramCompilesCardSaid : Prop := Claim7.holds Tryz.pinned (.plain (OpenSpec.ofChange programCompilesSpec)) programCompilesCard

/-- THE TIED CARD OF 'tattinglaw15.ProgramFits'. -/
def programFitsCard : Claim7 := { stood := { row := programFitsRow, standIns := [], harness := (true, "1f42cf79b17d3087fb53cef0632e8765a7447dfe06b6cbb8c8ba2dc2905c1601"), looks := false }, kinds := [], alts := [], laidByText := true, laidKinds := [.data], laidTests := true, laidLooks := .later }
def ProgramFitsCardSaid : Prop := Claim7.holds Tryz.pinned (.plain (OpenSpec.ofChange programFitsSpec)) programFitsCard

/-- THE TIED CARD OF 'tattinglaw15.ProgramRight'. -/
def programRightCard : Claim7 := { stood := { row := programRightRow, standIns := [], harness := (true, "1f42cf79b17d3087fb53cef0632e8765a7447dfe06b6cbb8c8ba2dc2905c1601"), looks := false }, kinds := [], alts := [], laidByText := true, laidKinds := [.data], laidTests := true, laidLooks := .later }
def ProgramRightCardSaid : Prop := Claim7.holds Tryz.pinned (.plain (OpenSpec.ofChange programRightSpec)) programRightCard

/-- THE TIED CARD OF 'tattinglaw33.RegistryPlays'. -/
def registryPlaysCard : Claim7 := { stood := { row := registryPlaysRow, standIns := [], harness := (true, "1f42cf79b17d3087fb53cef0632e8765a7447dfe06b6cbb8c8ba2dc2905c1601"), looks := false }, kinds := [], alts := [], laidByText := true, laidKinds := [.data], laidTests := true, laidLooks := .later }
def RegistryPlaysCardSaid : Prop := Claim7.holds Tryz.pinned (.plain (OpenSpec.ofChange registryPlaysSpec)) registryPlaysCard

/-- THE TIED CARD OF 'tattinglaw33.RegistryNone'. -/
def registryNoneCard : Claim7 := { stood := { row := registryNoneRow, standIns := [], harness := (true, "1f42cf79b17d3087fb53cef0632e8765a7447dfe06b6cbb8c8ba2dc2905c1601"), looks := false }, kinds := [], alts := [], laidByText := true, laidKinds := [.data], laidTests := true, laidLooks := .later }
def RegistryNoneCardSaid : Prop := Claim7.holds Tryz.pinned (.plain (OpenSpec.ofChange registryNoneSpec)) registryNoneCard

/-- THE TIED CARD OF 'tattinglaw33.RegistryPrograms'. -/
def registryProgramsCard : Claim7 := { stood := { row := registryProgramsRow, standIns := [], harness := (true, "1f42cf79b17d3087fb53cef0632e8765a7447dfe06b6cbb8c8ba2dc2905c1601"), looks := false }, kinds := [], alts := [], laidByText := true, laidKinds := [.data], laidTests := true, laidLooks := .later }
def RegistryProgramsCardSaid : Prop := Claim7.holds Tryz.pinned (.plain (OpenSpec.ofChange registryProgramsSpec)) registryProgramsCard

/-- THE SECOND FORM's CARD OF 'tattinglaw15.ProgramCompiles'. -/
def programCompilesUptoCard : Claim7 := { stood := { row := programCompilesUptoRow, standIns := [], harness := (true, "1f42cf79b17d3087fb53cef0632e8765a7447dfe06b6cbb8c8ba2dc2905c1601"), looks := false }, kinds := [], alts := [], laidByText := true, laidKinds := [.data], laidTests := true, laidLooks := .later }
def ProgramCompilesUptoCardSaid : Prop := Claim7.holds Tryz.pinned (.plain (OpenSpec.upto programCompilesSpec)) programCompilesUptoCard

/-- THE SECOND FORM's CARD OF 'tattinglaw15.ProgramFits'. -/
def programFitsUptoCard : Claim7 := { stood := { row := programFitsUptoRow, standIns := [], harness := (true, "1f42cf79b17d3087fb53cef0632e8765a7447dfe06b6cbb8c8ba2dc2905c1601"), looks := false }, kinds := [], alts := [], laidByText := true, laidKinds := [.data], laidTests := true, laidLooks := .later }
def ProgramFitsUptoCardSaid : Prop := Claim7.holds Tryz.pinned (.plain (OpenSpec.upto programFitsSpec)) programFitsUptoCard

/-- THE SECOND FORM's CARD OF 'tattinglaw15.ProgramRight'. -/
def programRightUptoCard : Claim7 := { stood := { row := programRightUptoRow, standIns := [], harness := (true, "1f42cf79b17d3087fb53cef0632e8765a7447dfe06b6cbb8c8ba2dc2905c1601"), looks := false }, kinds := [], alts := [], laidByText := true, laidKinds := [.data], laidTests := true, laidLooks := .later }
def ProgramRightUptoCardSaid : Prop := Claim7.holds Tryz.pinned (.plain (OpenSpec.upto programRightSpec)) programRightUptoCard

/-- THE SECOND FORM's CARD OF 'tattinglaw33.RegistryPlays'. -/
def registryPlaysUptoCard : Claim7 := { stood := { row := registryPlaysUptoRow, standIns := [], harness := (true, "1f42cf79b17d3087fb53cef0632e8765a7447dfe06b6cbb8c8ba2dc2905c1601"), looks := false }, kinds := [], alts := [], laidByText := true, laidKinds := [.data], laidTests := true, laidLooks := .later }
def RegistryPlaysUptoCardSaid : Prop := Claim7.holds Tryz.pinned (.plain (OpenSpec.upto registryPlaysSpec)) registryPlaysUptoCard

/-- THE SECOND FORM's CARD OF 'tattinglaw33.RegistryNone'. -/
def registryNoneUptoCard : Claim7 := { stood := { row := registryNoneUptoRow, standIns := [], harness := (true, "1f42cf79b17d3087fb53cef0632e8765a7447dfe06b6cbb8c8ba2dc2905c1601"), looks := false }, kinds := [], alts := [], laidByText := true, laidKinds := [.data], laidTests := true, laidLooks := .later }
def RegistryNoneUptoCardSaid : Prop := Claim7.holds Tryz.pinned (.plain (OpenSpec.upto registryNoneSpec)) registryNoneUptoCard

/-- THE SECOND FORM's CARD OF 'tattinglaw33.RegistryPrograms'. -/
def registryProgramsUptoCard : Claim7 := { stood := { row := registryProgramsUptoRow, standIns := [], harness := (true, "1f42cf79b17d3087fb53cef0632e8765a7447dfe06b6cbb8c8ba2dc2905c1601"), looks := false }, kinds := [], alts := [], laidByText := true, laidKinds := [.data], laidTests := true, laidLooks := .later }
def RegistryProgramsUptoCardSaid : Prop := Claim7.holds Tryz.pinned (.plain (OpenSpec.upto registryProgramsSpec)) registryProgramsUptoCard
end Rows
end Go.Proofs.YtpbgmkhmdbchpaaGreatDoor
