/-
  DERIVED. GIVEN WITH THE SEED: THE CARDS: each row of YtfokmfnafbladaaDoorRows.lean that lists a variable, with what it lists TIED to the program's text (the seventh form; the later family's looks); each row that meets fmt, with fmt's text TOLD by the authors' own Lean function (tested against real Go, not proved from fmt's source: count such statements apart). THE CARD IS WHAT COUNTS. Prove the row's statement (the work); the ties are given (YtfokmfnafbladaaDoorTie.lean); close each card by the builder's one call (the guide's Derived/Test/ToyasCard.lean, 'card_holds'). Laid BY PROGRAM, IN A SANDBOX (cutbox-door.mjs). By AI agents, Wed Nov 11 2026. No macro, syntax, notation, axiom, sorry.
-/
import Derived.Test.YtfokmfnafbladaaDoorRows
import GoSem.ClaimSeven
namespace Go.Proofs.YtfokmfnafbladaaDoor
namespace Rows

/-- THE TIED CARD OF 'locklesslaw17.HistParts'. -/
def histPartsCard : Claim7 := { stood := { row := histPartsRow, standIns := [], harness := (true, "48ef1b02bd5b60dd14d7596fe4e5785368469a5f096519d703a118c96f40c8c4"), looks := true }, kinds := [], alts := [], laidByText := true, laidKinds := [.data, .data, .data, .data, .pinned], laidTests := true, laidLooks := .later }
def HistPartsCardSaid : Prop := Claim7.holds Tryd.pinned (.plain (OpenSpec.ofChange histPartsSpec)) histPartsCard

/-- THE TIED CARD OF 'locklesslaw17.HistWider'. -/
def histWiderCard : Claim7 := { stood := { row := histWiderRow, standIns := [], harness := (true, "48ef1b02bd5b60dd14d7596fe4e5785368469a5f096519d703a118c96f40c8c4"), looks := true }, kinds := [], alts := [], laidByText := true, laidKinds := [.data, .data, .data, .data, .pinned], laidTests := true, laidLooks := .later }
def HistWiderCardSaid : Prop := Claim7.holds Tryd.pinned (.plain (OpenSpec.ofChange histWiderSpec)) histWiderCard

/-- THE TIED CARD OF 'locklesslaw17.HistCompares'. -/
def histComparesCard : Claim7 := { stood := { row := histComparesRow, standIns := [], harness := (true, "48ef1b02bd5b60dd14d7596fe4e5785368469a5f096519d703a118c96f40c8c4"), looks := true }, kinds := [], alts := [], laidByText := true, laidKinds := [.data, .data, .data, .data, .pinned], laidTests := true, laidLooks := .later }
def HistComparesCardSaid : Prop := Claim7.holds Tryd.pinned (.plain (OpenSpec.ofChange histComparesSpec)) histComparesCard

/-- THE TIED CARD OF 'locklesslaw17.HistWrites'. -/
def histWritesCard : Claim7 := { stood := { row := histWritesRow, standIns := [], harness := (true, "48ef1b02bd5b60dd14d7596fe4e5785368469a5f096519d703a118c96f40c8c4"), looks := true }, kinds := [], alts := [], laidByText := true, laidKinds := [.data, .data, .data, .data, .sentinel, .sentinel, .pinned], laidTests := true, laidLooks := .later }
def HistWritesCardSaid : Prop := Claim7.holds Tryd.pinned (.plain (OpenSpec.ofChange histWritesSpec)) histWritesCard

/-- THE TIED CARD OF 'locklesslaw17.HistReads'. -/
def histReadsCard : Claim7 := { stood := { row := histReadsRow, standIns := [], harness := (true, "48ef1b02bd5b60dd14d7596fe4e5785368469a5f096519d703a118c96f40c8c4"), looks := true }, kinds := [], alts := [], laidByText := true, laidKinds := [.data, .data, .data, .data, .sentinel, .sentinel, .pinned], laidTests := true, laidLooks := .later }
def HistReadsCardSaid : Prop := Claim7.holds Tryd.pinned (.plain (OpenSpec.ofChange histReadsSpec)) histReadsCard

/-- THE SECOND FORM's CARD OF 'locklesslaw17.HistParts'. -/
def histPartsUptoCard : Claim7 := { stood := { row := histPartsUptoRow, standIns := [], harness := (true, "48ef1b02bd5b60dd14d7596fe4e5785368469a5f096519d703a118c96f40c8c4"), looks := true }, kinds := [], alts := [], laidByText := true, laidKinds := [.data, .data, .data, .data, .pinned], laidTests := true, laidLooks := .later }
def HistPartsUptoCardSaid : Prop := Claim7.holds Tryd.pinned (.plain (OpenSpec.upto histPartsSpec)) histPartsUptoCard

/-- THE SECOND FORM's CARD OF 'locklesslaw17.HistWider'. -/
def histWiderUptoCard : Claim7 := { stood := { row := histWiderUptoRow, standIns := [], harness := (true, "48ef1b02bd5b60dd14d7596fe4e5785368469a5f096519d703a118c96f40c8c4"), looks := true }, kinds := [], alts := [], laidByText := true, laidKinds := [.data, .data, .data, .data, .pinned], laidTests := true, laidLooks := .later }
def HistWiderUptoCardSaid : Prop := Claim7.holds Tryd.pinned (.plain (OpenSpec.upto histWiderSpec)) histWiderUptoCard

/-- THE SECOND FORM's CARD OF 'locklesslaw17.HistCompares'. -/
def histComparesUptoCard : Claim7 := { stood := { row := histComparesUptoRow, standIns := [], harness := (true, "48ef1b02bd5b60dd14d7596fe4e5785368469a5f096519d703a118c96f40c8c4"), looks := true }, kinds := [], alts := [], laidByText := true, laidKinds := [.data, .data, .data, .data, .pinned], laidTests := true, laidLooks := .later }
def HistComparesUptoCardSaid : Prop := Claim7.holds Tryd.pinned (.plain (OpenSpec.upto histComparesSpec)) histComparesUptoCard

/-- THE SECOND FORM's CARD OF 'locklesslaw17.HistWrites'. -/
def histWritesUptoCard : Claim7 := { stood := { row := histWritesUptoRow, standIns := [], harness := (true, "48ef1b02bd5b60dd14d7596fe4e5785368469a5f096519d703a118c96f40c8c4"), looks := true }, kinds := [], alts := [], laidByText := true, laidKinds := [.data, .data, .data, .data, .sentinel, .sentinel, .pinned], laidTests := true, laidLooks := .later }
def HistWritesUptoCardSaid : Prop := Claim7.holds Tryd.pinned (.plain (OpenSpec.upto histWritesSpec)) histWritesUptoCard

/-- THE SECOND FORM's CARD OF 'locklesslaw17.HistReads'. -/
def histReadsUptoCard : Claim7 := { stood := { row := histReadsUptoRow, standIns := [], harness := (true, "48ef1b02bd5b60dd14d7596fe4e5785368469a5f096519d703a118c96f40c8c4"), looks := true }, kinds := [], alts := [], laidByText := true, laidKinds := [.data, .data, .data, .data, .sentinel, .sentinel, .pinned], laidTests := true, laidLooks := .later }
def HistReadsUptoCardSaid : Prop := Claim7.holds Tryd.pinned (.plain (OpenSpec.upto histReadsSpec)) histReadsUptoCard
end Rows
end Go.Proofs.YtfokmfnafbladaaDoor
