/-
  DERIVED. GIVEN WITH THE SEED: THE CARDS: each row of YtdakclpneghkmaaGreatDoorRows.lean that lists a variable, with what it lists TIED to the program's text (the seventh form; the later family's looks); each row that meets fmt, with fmt's text TOLD by the authors' own Lean function (tested against real Go, not proved from fmt's source: count such statements apart). THE CARD IS WHAT COUNTS. Prove the row's statement (the work); the ties are given (YtdakclpneghkmaaGreatDoorTie.lean); close each card by the builder's one call (the guide's Derived/Test/ToyasCard.lean, 'card_holds'). Laid BY PROGRAM, IN A SANDBOX (cutbox-door.mjs). By AI agents, Wed Nov 11 2026. No macro, syntax, notation, axiom, sorry.
-/
import Derived.Test.YtdakclpneghkmaaGreatDoorRows
import GoSem.ClaimSeven
namespace Go.Proofs.YtdakclpneghkmaaGreatDoor
namespace Rows

/-- THE TIED CARD OF 'ringtop.TopSignals'. -/
def topSignalsCard : Claim7 := { stood := { row := topSignalsRow, standIns := [], harness := (true, "c9e3f6ad5484aa014998366de72f665244221706cc486a24f20ff12091bc053d"), looks := false }, kinds := [], alts := [], laidByText := true, laidKinds := [.data, .pinned], laidTests := true, laidLooks := .later }
def TopSignalsCardSaid : Prop := Claim7.holds Tryz.pinned (.plain (OpenSpec.ofChange topSignalsSpec)) topSignalsCard

/-- THE TIED CARD OF 'ringtop.TopShare'. -/
def topShareCard : Claim7 := { stood := { row := topShareRow, standIns := [], harness := (true, "c9e3f6ad5484aa014998366de72f665244221706cc486a24f20ff12091bc053d"), looks := false }, kinds := [], alts := [], laidByText := true, laidKinds := [.data, .pinned], laidTests := true, laidLooks := .later }
def TopShareCardSaid : Prop := Claim7.holds Tryz.pinned (.plain (OpenSpec.ofChange topShareSpec)) topShareCard

/-- THE TIED CARD OF 'ringtop.TopRoots'. -/
def topRootsCard : Claim7 := { stood := { row := topRootsRow, standIns := [], harness := (true, "c9e3f6ad5484aa014998366de72f665244221706cc486a24f20ff12091bc053d"), looks := false }, kinds := [], alts := [], laidByText := true, laidKinds := [.data, .pinned], laidTests := true, laidLooks := .later }
def TopRootsCardSaid : Prop := Claim7.holds Tryz.pinned (.plain (OpenSpec.ofChange topRootsSpec)) topRootsCard

/-- THE SECOND FORM's CARD OF 'ringtop.TopSignals'. -/
def topSignalsUptoCard : Claim7 := { stood := { row := topSignalsUptoRow, standIns := [], harness := (true, "c9e3f6ad5484aa014998366de72f665244221706cc486a24f20ff12091bc053d"), looks := false }, kinds := [], alts := [], laidByText := true, laidKinds := [.data, .pinned], laidTests := true, laidLooks := .later }
def TopSignalsUptoCardSaid : Prop := Claim7.holds Tryz.pinned (.plain (OpenSpec.upto topSignalsSpec)) topSignalsUptoCard

/-- THE SECOND FORM's CARD OF 'ringtop.TopShare'. -/
def topShareUptoCard : Claim7 := { stood := { row := topShareUptoRow, standIns := [], harness := (true, "c9e3f6ad5484aa014998366de72f665244221706cc486a24f20ff12091bc053d"), looks := false }, kinds := [], alts := [], laidByText := true, laidKinds := [.data, .pinned], laidTests := true, laidLooks := .later }
def TopShareUptoCardSaid : Prop := Claim7.holds Tryz.pinned (.plain (OpenSpec.upto topShareSpec)) topShareUptoCard

/-- THE SECOND FORM's CARD OF 'ringtop.TopRoots'. -/
def topRootsUptoCard : Claim7 := { stood := { row := topRootsUptoRow, standIns := [], harness := (true, "c9e3f6ad5484aa014998366de72f665244221706cc486a24f20ff12091bc053d"), looks := false }, kinds := [], alts := [], laidByText := true, laidKinds := [.data, .pinned], laidTests := true, laidLooks := .later }
def TopRootsUptoCardSaid : Prop := Claim7.holds Tryz.pinned (.plain (OpenSpec.upto topRootsSpec)) topRootsUptoCard
end Rows
end Go.Proofs.YtdakclpneghkmaaGreatDoor
