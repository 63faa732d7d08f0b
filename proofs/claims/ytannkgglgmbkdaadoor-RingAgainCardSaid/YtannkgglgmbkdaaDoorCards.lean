/-
  DERIVED. GIVEN WITH THE SEED: THE CARDS: each row of YtannkgglgmbkdaaDoorRows.lean that lists a variable, with what it lists TIED to the program's text (the seventh form; the later family's looks); each row that meets fmt, with fmt's text TOLD by the authors' own Lean function (tested against real Go, not proved from fmt's source: count such statements apart). THE CARD IS WHAT COUNTS. Prove the row's statement (the work); the ties are given (YtannkgglgmbkdaaDoorTie.lean); close each card by the builder's one call (the guide's Derived/Test/ToyasCard.lean, 'card_holds'). Laid BY PROGRAM, IN A SANDBOX (cutbox-door.mjs). By AI agents, Wed Nov 11 2026. No macro, syntax, notation, axiom, sorry.
-/
import Derived.Test.YtannkgglgmbkdaaDoorRows
import GoSem.ClaimSeven
namespace Go.Proofs.YtannkgglgmbkdaaDoor
namespace Rows

/-- THE TIED CARD OF 'lapidarylaw04.RingSectors'. -/
def ringSectorsCard : Claim7 := { stood := { row := ringSectorsRow, standIns := [], harness := (true, "b52c6444569744fb128d53d93b071a10f5e9d8b1220daa78b2ca8519d5a0b088"), looks := false }, kinds := [], alts := [], laidByText := true, laidKinds := [.sentinel], laidTests := true, laidLooks := .later }
def RingSectorsCardSaid : Prop := Claim7.holds Tryd.pinned (.plain (OpenSpec.ofChange ringSectorsSpec)) ringSectorsCard

/-- THE TIED CARD OF 'lapidarylaw04.RingSeqs'. -/
def ringSeqsCard : Claim7 := { stood := { row := ringSeqsRow, standIns := [], harness := (true, "b52c6444569744fb128d53d93b071a10f5e9d8b1220daa78b2ca8519d5a0b088"), looks := false }, kinds := [], alts := [], laidByText := true, laidKinds := [.sentinel], laidTests := true, laidLooks := .later }
def RingSeqsCardSaid : Prop := Claim7.holds Tryd.pinned (.plain (OpenSpec.ofChange ringSeqsSpec)) ringSeqsCard

/-- THE TIED CARD OF 'lapidarylaw04.RingFull'. -/
def ringFullCard : Claim7 := { stood := { row := ringFullRow, standIns := [], harness := (true, "b52c6444569744fb128d53d93b071a10f5e9d8b1220daa78b2ca8519d5a0b088"), looks := false }, kinds := [], alts := [], laidByText := true, laidKinds := [.sentinel], laidTests := true, laidLooks := .later }
def RingFullCardSaid : Prop := Claim7.holds Tryd.pinned (.plain (OpenSpec.ofChange ringFullSpec)) ringFullCard

/-- THE TIED CARD OF 'lapidarylaw04.RingKeeps'. -/
def ringKeepsCard : Claim7 := { stood := { row := ringKeepsRow, standIns := [], harness := (true, "b52c6444569744fb128d53d93b071a10f5e9d8b1220daa78b2ca8519d5a0b088"), looks := false }, kinds := [], alts := [], laidByText := true, laidKinds := [.sentinel], laidTests := true, laidLooks := .later }
def RingKeepsCardSaid : Prop := Claim7.holds Tryd.pinned (.plain (OpenSpec.ofChange ringKeepsSpec)) ringKeepsCard

/-- THE TIED CARD OF 'lapidarylaw04.RingAgain'. -/
def ringAgainCard : Claim7 := { stood := { row := ringAgainRow, standIns := [], harness := (true, "b52c6444569744fb128d53d93b071a10f5e9d8b1220daa78b2ca8519d5a0b088"), looks := false }, kinds := [], alts := [], laidByText := true, laidKinds := [.sentinel], laidTests := true, laidLooks := .later }
def RingAgainCardSaid : Prop := Claim7.holds Tryd.pinned (.plain (OpenSpec.ofChange ringAgainSpec)) ringAgainCard

/-- THE TIED CARD OF 'lapidarylaw04.RingNil'. -/
def ringNilCard : Claim7 := { stood := { row := ringNilRow, standIns := [], harness := (true, "b52c6444569744fb128d53d93b071a10f5e9d8b1220daa78b2ca8519d5a0b088"), looks := false }, kinds := [], alts := [], laidByText := true, laidKinds := [.sentinel], laidTests := true, laidLooks := .later }
def RingNilCardSaid : Prop := Claim7.holds Tryd.pinned (.plain (OpenSpec.ofChange ringNilSpec)) ringNilCard

/-- THE SECOND FORM's CARD OF 'lapidarylaw04.RingSectors'. -/
def ringSectorsUptoCard : Claim7 := { stood := { row := ringSectorsUptoRow, standIns := [], harness := (true, "b52c6444569744fb128d53d93b071a10f5e9d8b1220daa78b2ca8519d5a0b088"), looks := false }, kinds := [], alts := [], laidByText := true, laidKinds := [.sentinel], laidTests := true, laidLooks := .later }
def RingSectorsUptoCardSaid : Prop := Claim7.holds Tryd.pinned (.plain (OpenSpec.upto ringSectorsSpec)) ringSectorsUptoCard

/-- THE SECOND FORM's CARD OF 'lapidarylaw04.RingSeqs'. -/
def ringSeqsUptoCard : Claim7 := { stood := { row := ringSeqsUptoRow, standIns := [], harness := (true, "b52c6444569744fb128d53d93b071a10f5e9d8b1220daa78b2ca8519d5a0b088"), looks := false }, kinds := [], alts := [], laidByText := true, laidKinds := [.sentinel], laidTests := true, laidLooks := .later }
def RingSeqsUptoCardSaid : Prop := Claim7.holds Tryd.pinned (.plain (OpenSpec.upto ringSeqsSpec)) ringSeqsUptoCard

/-- THE SECOND FORM's CARD OF 'lapidarylaw04.RingFull'. -/
def ringFullUptoCard : Claim7 := { stood := { row := ringFullUptoRow, standIns := [], harness := (true, "b52c6444569744fb128d53d93b071a10f5e9d8b1220daa78b2ca8519d5a0b088"), looks := false }, kinds := [], alts := [], laidByText := true, laidKinds := [.sentinel], laidTests := true, laidLooks := .later }
def RingFullUptoCardSaid : Prop := Claim7.holds Tryd.pinned (.plain (OpenSpec.upto ringFullSpec)) ringFullUptoCard

/-- THE SECOND FORM's CARD OF 'lapidarylaw04.RingKeeps'. -/
def ringKeepsUptoCard : Claim7 := { stood := { row := ringKeepsUptoRow, standIns := [], harness := (true, "b52c6444569744fb128d53d93b071a10f5e9d8b1220daa78b2ca8519d5a0b088"), looks := false }, kinds := [], alts := [], laidByText := true, laidKinds := [.sentinel], laidTests := true, laidLooks := .later }
def RingKeepsUptoCardSaid : Prop := Claim7.holds Tryd.pinned (.plain (OpenSpec.upto ringKeepsSpec)) ringKeepsUptoCard

/-- THE SECOND FORM's CARD OF 'lapidarylaw04.RingAgain'. -/
def ringAgainUptoCard : Claim7 := { stood := { row := ringAgainUptoRow, standIns := [], harness := (true, "b52c6444569744fb128d53d93b071a10f5e9d8b1220daa78b2ca8519d5a0b088"), looks := false }, kinds := [], alts := [], laidByText := true, laidKinds := [.sentinel], laidTests := true, laidLooks := .later }
def RingAgainUptoCardSaid : Prop := Claim7.holds Tryd.pinned (.plain (OpenSpec.upto ringAgainSpec)) ringAgainUptoCard

/-- THE SECOND FORM's CARD OF 'lapidarylaw04.RingNil'. -/
def ringNilUptoCard : Claim7 := { stood := { row := ringNilUptoRow, standIns := [], harness := (true, "b52c6444569744fb128d53d93b071a10f5e9d8b1220daa78b2ca8519d5a0b088"), looks := false }, kinds := [], alts := [], laidByText := true, laidKinds := [.sentinel], laidTests := true, laidLooks := .later }
def RingNilUptoCardSaid : Prop := Claim7.holds Tryd.pinned (.plain (OpenSpec.upto ringNilSpec)) ringNilUptoCard
end Rows
end Go.Proofs.YtannkgglgmbkdaaDoor
