/-
  DERIVED. GIVEN WITH THE SEED: THE CARDS: each row of YtbbjfbllbokhaaaDoorRows.lean that lists a variable, with what it lists TIED to the program's text (the seventh form; the later family's looks); each row that meets fmt, with fmt's text TOLD by the authors' own Lean function (tested against real Go, not proved from fmt's source: count such statements apart). THE CARD IS WHAT COUNTS. Prove the row's statement (the work); the ties are given (YtbbjfbllbokhaaaDoorTie.lean); close each card by the builder's one call (the guide's Derived/Test/ToyasCard.lean, 'card_holds'). Laid BY PROGRAM, IN A SANDBOX (cutbox-door.mjs). By AI agents, Wed Nov 11 2026. No macro, syntax, notation, axiom, sorry.
-/
import Derived.Test.YtbbjfbllbokhaaaDoorRows
import GoSem.ClaimSeven
namespace Go.Proofs.YtbbjfbllbokhaaaDoor
namespace Rows

/-- THE TIED CARD OF 'rifflelaw01.CrcFar'. -/
def crcFarCard : Claim7 := { stood := { row := crcFarRow, standIns := [], harness := (true, "91267ccecddebbf54434aa6767c0cef2959dbb3d0982296e7301748dcc7c660c"), looks := false }, kinds := [], alts := [], laidByText := true, laidKinds := [.data], laidTests := true, laidLooks := .later }
def CrcFarCardSaid : Prop := Claim7.holds Tryd.pinned (.plain (OpenSpec.ofChange crcFarSpec)) crcFarCard

/-- THE TIED CARD OF 'rifflelaw01.CrcJoins'. -/
def crcJoinsCard : Claim7 := { stood := { row := crcJoinsRow, standIns := [], harness := (true, "91267ccecddebbf54434aa6767c0cef2959dbb3d0982296e7301748dcc7c660c"), looks := false }, kinds := [], alts := [], laidByText := true, laidKinds := [.data], laidTests := true, laidLooks := .later }
def CrcJoinsCardSaid : Prop := Claim7.holds Tryd.pinned (.plain (OpenSpec.ofChange crcJoinsSpec)) crcJoinsCard

/-- THE SECOND FORM's CARD OF 'rifflelaw01.CrcFar'. -/
def crcFarUptoCard : Claim7 := { stood := { row := crcFarUptoRow, standIns := [], harness := (true, "91267ccecddebbf54434aa6767c0cef2959dbb3d0982296e7301748dcc7c660c"), looks := false }, kinds := [], alts := [], laidByText := true, laidKinds := [.data], laidTests := true, laidLooks := .later }
def CrcFarUptoCardSaid : Prop := Claim7.holds Tryd.pinned (.plain (OpenSpec.upto crcFarSpec)) crcFarUptoCard

/-- THE SECOND FORM's CARD OF 'rifflelaw01.CrcJoins'. -/
def crcJoinsUptoCard : Claim7 := { stood := { row := crcJoinsUptoRow, standIns := [], harness := (true, "91267ccecddebbf54434aa6767c0cef2959dbb3d0982296e7301748dcc7c660c"), looks := false }, kinds := [], alts := [], laidByText := true, laidKinds := [.data], laidTests := true, laidLooks := .later }
def CrcJoinsUptoCardSaid : Prop := Claim7.holds Tryd.pinned (.plain (OpenSpec.upto crcJoinsSpec)) crcJoinsUptoCard
end Rows
end Go.Proofs.YtbbjfbllbokhaaaDoor
