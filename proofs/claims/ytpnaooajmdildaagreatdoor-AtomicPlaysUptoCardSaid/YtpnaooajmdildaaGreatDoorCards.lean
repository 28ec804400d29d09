/-
  DERIVED. GIVEN WITH THE SEED: THE CARDS: each row of YtpnaooajmdildaaGreatDoorRows.lean that lists a variable, with what it lists TIED to the program's text (the seventh form; the later family's looks); each row that meets fmt, with fmt's text TOLD by the authors' own Lean function (tested against real Go, not proved from fmt's source: count such statements apart). THE CARD IS WHAT COUNTS. Prove the row's statement (the work); the ties are given (YtpnaooajmdildaaGreatDoorTie.lean); close each card by the builder's one call (the guide's Derived/Test/ToyasCard.lean, 'card_holds'). Laid BY PROGRAM, IN A SANDBOX (cutbox-door.mjs). By AI agents, Wed Nov 11 2026. No macro, syntax, notation, axiom, sorry.
-/
import Derived.Test.YtpnaooajmdildaaGreatDoorRows
import GoSem.ClaimSeven
namespace Go.Proofs.YtpnaooajmdildaaGreatDoor
namespace Rows

/-- THE TIED CARD OF 'seisinlaw13.AtomicCommutes'. -/
def atomicCommutesCard : Claim7 := { stood := { row := atomicCommutesRow, standIns := [], harness := (true, "ca013355e6732732637a4421db7e2bd7c16ac62ff846adfe53d5571aee71210e"), looks := true }, kinds := [], alts := [], laidByText := true, laidKinds := [.data, .data, .data, .sentinel, .sentinel], laidTests := true, laidLooks := .later }
def AtomicCommutesCardSaid : Prop := Claim7.holds Tryz.pinned (.plain (OpenSpec.ofChange atomicCommutesSpec)) atomicCommutesCard

/-- THE TIED CARD OF 'seisinlaw13.AtomicSums'. -/
def atomicSumsCard : Claim7 := { stood := { row := atomicSumsRow, standIns := [], harness := (true, "ca013355e6732732637a4421db7e2bd7c16ac62ff846adfe53d5571aee71210e"), looks := true }, kinds := [], alts := [], laidByText := true, laidKinds := [.data, .data, .data, .sentinel, .sentinel], laidTests := true, laidLooks := .later }
def AtomicSumsCardSaid : Prop := Claim7.holds Tryz.pinned (.plain (OpenSpec.ofChange atomicSumsSpec)) atomicSumsCard

/-- THE TIED CARD OF 'seisinlaw13.AtomicTells'. -/
def atomicTellsCard : Claim7 := { stood := { row := atomicTellsRow, standIns := [], harness := (true, "ca013355e6732732637a4421db7e2bd7c16ac62ff846adfe53d5571aee71210e"), looks := true }, kinds := [], alts := [], laidByText := true, laidKinds := [.data, .data, .data, .sentinel, .sentinel], laidTests := true, laidLooks := .later }
def AtomicTellsCardSaid : Prop := Claim7.holds Tryz.pinned (.plain (OpenSpec.ofChange atomicTellsSpec)) atomicTellsCard

/-- THE TIED CARD OF 'seisinlaw13.AtomicSteps'. -/
def atomicStepsCard : Claim7 := { stood := { row := atomicStepsRow, standIns := [], harness := (true, "ca013355e6732732637a4421db7e2bd7c16ac62ff846adfe53d5571aee71210e"), looks := true }, kinds := [], alts := [], laidByText := true, laidKinds := [.data, .data, .data, .sentinel, .sentinel], laidTests := true, laidLooks := .later }
def AtomicStepsCardSaid : Prop := Claim7.holds Tryz.pinned (.plain (OpenSpec.ofChange atomicStepsSpec)) atomicStepsCard

/-- THE TIED CARD OF 'seisinlaw13.AtomicPlays'. -/
def atomicPlaysCard : Claim7 := { stood := { row := atomicPlaysRow, standIns := [], harness := (true, "ca013355e6732732637a4421db7e2bd7c16ac62ff846adfe53d5571aee71210e"), looks := true }, kinds := [], alts := [], laidByText := true, laidKinds := [.data, .data, .data, .sentinel, .sentinel], laidTests := true, laidLooks := .later }
def AtomicPlaysCardSaid : Prop := Claim7.holds Tryz.pinned (.plain (OpenSpec.ofChange atomicPlaysSpec)) atomicPlaysCard

/-- THE TIED CARD OF 'seisinlaw13.AtomicWrong'. -/
def atomicWrongCard : Claim7 := { stood := { row := atomicWrongRow, standIns := [], harness := (true, "ca013355e6732732637a4421db7e2bd7c16ac62ff846adfe53d5571aee71210e"), looks := true }, kinds := [], alts := [], laidByText := true, laidKinds := [.data, .data, .data, .sentinel, .sentinel], laidTests := true, laidLooks := .later }
def AtomicWrongCardSaid : Prop := Claim7.holds Tryz.pinned (.plain (OpenSpec.ofChange atomicWrongSpec)) atomicWrongCard

/-- THE TIED CARD OF 'seisinlaw13.AtomicAlone'. -/
def atomicAloneCard : Claim7 := { stood := { row := atomicAloneRow, standIns := [], harness := (true, "ca013355e6732732637a4421db7e2bd7c16ac62ff846adfe53d5571aee71210e"), looks := true }, kinds := [], alts := [], laidByText := true, laidKinds := [.data, .data, .data, .sentinel, .sentinel], laidTests := true, laidLooks := .later }
def AtomicAloneCardSaid : Prop := Claim7.holds Tryz.pinned (.plain (OpenSpec.ofChange atomicAloneSpec)) atomicAloneCard

/-- THE SECOND FORM's CARD OF 'seisinlaw13.AtomicCommutes'. -/
def atomicCommutesUptoCard : Claim7 := { stood := { row := atomicCommutesUptoRow, standIns := [], harness := (true, "ca013355e6732732637a4421db7e2bd7c16ac62ff846adfe53d5571aee71210e"), looks := true }, kinds := [], alts := [], laidByText := true, laidKinds := [.data, .data, .data, .sentinel, .sentinel], laidTests := true, laidLooks := .later }
def AtomicCommutesUptoCardSaid : Prop := Claim7.holds Tryz.pinned (.plain (OpenSpec.upto atomicCommutesSpec)) atomicCommutesUptoCard

/-- THE SECOND FORM's CARD OF 'seisinlaw13.AtomicSums'. -/
def atomicSumsUptoCard : Claim7 := { stood := { row := atomicSumsUptoRow, standIns := [], harness := (true, "ca013355e6732732637a4421db7e2bd7c16ac62ff846adfe53d5571aee71210e"), looks := true }, kinds := [], alts := [], laidByText := true, laidKinds := [.data, .data, .data, .sentinel, .sentinel], laidTests := true, laidLooks := .later }
def AtomicSumsUptoCardSaid : Prop := Claim7.holds Tryz.pinned (.plain (OpenSpec.upto atomicSumsSpec)) atomicSumsUptoCard

/-- THE SECOND FORM's CARD OF 'seisinlaw13.AtomicTells'. -/
def atomicTellsUptoCard : Claim7 := { stood := { row := atomicTellsUptoRow, standIns := [], harness := (true, "ca013355e6732732637a4421db7e2bd7c16ac62ff846adfe53d5571aee71210e"), looks := true }, kinds := [], alts := [], laidByText := true, laidKinds := [.data, .data, .data, .sentinel, .sentinel], laidTests := true, laidLooks := .later }
def AtomicTellsUptoCardSaid : Prop := Claim7.holds Tryz.pinned (.plain (OpenSpec.upto atomicTellsSpec)) atomicTellsUptoCard

/-- THE SECOND FORM's CARD OF 'seisinlaw13.AtomicSteps'. -/
def atomicStepsUptoCard : Claim7 := { stood := { row := atomicStepsUptoRow, standIns := [], harness := (true, "ca013355e6732732637a4421db7e2bd7c16ac62ff846adfe53d5571aee71210e"), looks := true }, kinds := [], alts := [], laidByText := true, laidKinds := [.data, .data, .data, .sentinel, .sentinel], laidTests := true, laidLooks := .later }
def AtomicStepsUptoCardSaid : Prop := Claim7.holds Tryz.pinned (.plain (OpenSpec.upto atomicStepsSpec)) atomicStepsUptoCard

/-- THE SECOND FORM's CARD OF 'seisinlaw13.AtomicPlays'. -/
def atomicPlaysUptoCard : Claim7 := { stood := { row := atomicPlaysUptoRow, standIns := [], harness := (true, "ca013355e6732732637a4421db7e2bd7c16ac62ff846adfe53d5571aee71210e"), looks := true }, kinds := [], alts := [], laidByText := true, laidKinds := [.data, .data, .data, .sentinel, .sentinel], laidTests := true, laidLooks := .later }
def AtomicPlaysUptoCardSaid : Prop := Claim7.holds Tryz.pinned (.plain (OpenSpec.upto atomicPlaysSpec)) atomicPlaysUptoCard

/-- THE SECOND FORM's CARD OF 'seisinlaw13.AtomicWrong'. -/
def atomicWrongUptoCard : Claim7 := { stood := { row := atomicWrongUptoRow, standIns := [], harness := (true, "ca013355e6732732637a4421db7e2bd7c16ac62ff846adfe53d5571aee71210e"), looks := true }, kinds := [], alts := [], laidByText := true, laidKinds := [.data, .data, .data, .sentinel, .sentinel], laidTests := true, laidLooks := .later }
def AtomicWrongUptoCardSaid : Prop := Claim7.holds Tryz.pinned (.plain (OpenSpec.upto atomicWrongSpec)) atomicWrongUptoCard

/-- THE SECOND FORM's CARD OF 'seisinlaw13.AtomicAlone'. -/
def atomicAloneUptoCard : Claim7 := { stood := { row := atomicAloneUptoRow, standIns := [], harness := (true, "ca013355e6732732637a4421db7e2bd7c16ac62ff846adfe53d5571aee71210e"), looks := true }, kinds := [], alts := [], laidByText := true, laidKinds := [.data, .data, .data, .sentinel, .sentinel], laidTests := true, laidLooks := .later }
def AtomicAloneUptoCardSaid : Prop := Claim7.holds Tryz.pinned (.plain (OpenSpec.upto atomicAloneSpec)) atomicAloneUptoCard
end Rows
end Go.Proofs.YtpnaooajmdildaaGreatDoor
