/-
  DERIVED. GIVEN WITH THE SEED: THE CARDS: each row of YtdipbhbhakmaiaaDoorRows.lean that lists a variable, with what it lists TIED to the program's text (the seventh form; the later family's looks); each row that meets fmt, with fmt's text TOLD by the authors' own Lean function (tested against real Go, not proved from fmt's source: count such statements apart). THE CARD IS WHAT COUNTS. Prove the row's statement (the work); the ties are given (YtdipbhbhakmaiaaDoorTie.lean); close each card by the builder's one call (the guide's Derived/Test/ToyasCard.lean, 'card_holds'). Laid BY PROGRAM, IN A SANDBOX (cutbox-door.mjs). By AI agents, Wed Nov 11 2026. No macro, syntax, notation, axiom, sorry.
-/
import Derived.Test.YtdipbhbhakmaiaaDoorRows
import GoSem.ClaimSeven
namespace Go.Proofs.YtdipbhbhakmaiaaDoor
namespace Rows

/-- THE TIED CARD OF 'switchyardlaw17.TakerNobody'. -/
def takerNobodyCard : Claim7 := { stood := { row := takerNobodyRow, standIns := [], harness := (true, "65014d1db8a245e73594165130d45d0e3a3484c23597cab37a20444b7d351a35"), looks := false }, kinds := [], alts := [], laidByText := true, laidKinds := [.data, .data], laidTests := true, laidLooks := .later }
def TakerNobodyCardSaid : Prop := Claim7.holds Tryd.pinned (.plain (OpenSpec.ofChange takerNobodySpec)) takerNobodyCard

/-- THE TIED CARD OF 'switchyardlaw17.TakerLinks'. -/
def takerLinksCard : Claim7 := { stood := { row := takerLinksRow, standIns := [], harness := (true, "65014d1db8a245e73594165130d45d0e3a3484c23597cab37a20444b7d351a35"), looks := false }, kinds := [], alts := [], laidByText := true, laidKinds := [.data, .data], laidTests := true, laidLooks := .later }
def TakerLinksCardSaid : Prop := Claim7.holds Tryd.pinned (.plain (OpenSpec.ofChange takerLinksSpec)) takerLinksCard

/-- THE TIED CARD OF 'switchyardlaw17.TakerSteps'. -/
def takerStepsCard : Claim7 := { stood := { row := takerStepsRow, standIns := [], harness := (true, "65014d1db8a245e73594165130d45d0e3a3484c23597cab37a20444b7d351a35"), looks := false }, kinds := [], alts := [], laidByText := true, laidKinds := [.data, .data], laidTests := true, laidLooks := .later }
def TakerStepsCardSaid : Prop := Claim7.holds Tryd.pinned (.plain (OpenSpec.ofChange takerStepsSpec)) takerStepsCard

/-- THE SECOND FORM's CARD OF 'switchyardlaw17.TakerNobody'. -/
def takerNobodyUptoCard : Claim7 := { stood := { row := takerNobodyUptoRow, standIns := [], harness := (true, "65014d1db8a245e73594165130d45d0e3a3484c23597cab37a20444b7d351a35"), looks := false }, kinds := [], alts := [], laidByText := true, laidKinds := [.data, .data], laidTests := true, laidLooks := .later }
def TakerNobodyUptoCardSaid : Prop := Claim7.holds Tryd.pinned (.plain (OpenSpec.upto takerNobodySpec)) takerNobodyUptoCard

/-- THE SECOND FORM's CARD OF 'switchyardlaw17.TakerLinks'. -/
def takerLinksUptoCard : Claim7 := { stood := { row := takerLinksUptoRow, standIns := [], harness := (true, "65014d1db8a245e73594165130d45d0e3a3484c23597cab37a20444b7d351a35"), looks := false }, kinds := [], alts := [], laidByText := true, laidKinds := [.data, .data], laidTests := true, laidLooks := .later }
def TakerLinksUptoCardSaid : Prop := Claim7.holds Tryd.pinned (.plain (OpenSpec.upto takerLinksSpec)) takerLinksUptoCard

/-- THE SECOND FORM's CARD OF 'switchyardlaw17.TakerSteps'. -/
def takerStepsUptoCard : Claim7 := { stood := { row := takerStepsUptoRow, standIns := [], harness := (true, "65014d1db8a245e73594165130d45d0e3a3484c23597cab37a20444b7d351a35"), looks := false }, kinds := [], alts := [], laidByText := true, laidKinds := [.data, .data], laidTests := true, laidLooks := .later }
def TakerStepsUptoCardSaid : Prop := Claim7.holds Tryd.pinned (.plain (OpenSpec.upto takerStepsSpec)) takerStepsUptoCard
end Rows
end Go.Proofs.YtdipbhbhakmaiaaDoor
