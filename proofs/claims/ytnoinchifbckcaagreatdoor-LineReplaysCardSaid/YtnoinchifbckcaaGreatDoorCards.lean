/-
  DERIVED. GIVEN WITH THE SEED: THE CARDS: each row of YtnoinchifbckcaaGreatDoorRows.lean that lists a variable, with what it lists TIED to the program's text (the seventh form; the later family's looks); each row that meets fmt, with fmt's text TOLD by the authors' own Lean function (tested against real Go, not proved from fmt's source: count such statements apart). THE CARD IS WHAT COUNTS. Prove the row's statement (the work); the ties are given (YtnoinchifbckcaaGreatDoorTie.lean); close each card by the builder's one call (the guide's Derived/Test/ToyasCard.lean, 'card_holds'). Laid BY PROGRAM, IN A SANDBOX (cutbox-door.mjs). By AI agents, Wed Nov 11 2026. No macro, syntax, notation, axiom, sorry.
-/
import Derived.Test.YtnoinchifbckcaaGreatDoorRows
import GoSem.ClaimSeven
namespace Go.Proofs.YtnoinchifbckcaaGreatDoor
namespace Rows

/-- THE TIED CARD OF 'berthagelaw12.CorePlays'. -/
def corePlaysCard : Claim7 := { stood := { row := corePlaysRow, standIns := [], harness := (true, "6801aaa123717e4ffc28013b40b464ca989b3c86bacdad2027bdeb77e6e839c8"), looks := true }, kinds := [], alts := [], laidByText := true, laidKinds := [.data], laidTests := true, laidLooks := .later }
def CorePlaysCardSaid : Prop := Claim7.holds Tryz.pinned (.plain (OpenSpec.ofChange corePlaysSpec)) corePlaysCard

/-- THE TIED CARD OF 'berthagelaw12.CoreWants'. -/
def coreWantsCard : Claim7 := { stood := { row := coreWantsRow, standIns := [], harness := (true, "6801aaa123717e4ffc28013b40b464ca989b3c86bacdad2027bdeb77e6e839c8"), looks := true }, kinds := [], alts := [], laidByText := true, laidKinds := [.data], laidTests := true, laidLooks := .later }
def CoreWantsCardSaid : Prop := Claim7.holds Tryz.pinned (.plain (OpenSpec.ofChange coreWantsSpec)) coreWantsCard

/-- THE TIED CARD OF 'berthagelaw12.CoreTwins'. -/
def coreTwinsCard : Claim7 := { stood := { row := coreTwinsRow, standIns := [], harness := (true, "6801aaa123717e4ffc28013b40b464ca989b3c86bacdad2027bdeb77e6e839c8"), looks := true }, kinds := [], alts := [], laidByText := true, laidKinds := [.data], laidTests := true, laidLooks := .later }
def CoreTwinsCardSaid : Prop := Claim7.holds Tryz.pinned (.plain (OpenSpec.ofChange coreTwinsSpec)) coreTwinsCard

/-- THE TIED CARD OF 'berthagelaw13.SeqPlays'. -/
def seqPlaysCard : Claim7 := { stood := { row := seqPlaysRow, standIns := [], harness := (true, "6801aaa123717e4ffc28013b40b464ca989b3c86bacdad2027bdeb77e6e839c8"), looks := true }, kinds := [], alts := [], laidByText := true, laidKinds := [.data], laidTests := true, laidLooks := .later }
def SeqPlaysCardSaid : Prop := Claim7.holds Tryz.pinned (.plain (OpenSpec.ofChange seqPlaysSpec)) seqPlaysCard

/-- THE TIED CARD OF 'berthagelaw13.SeqPlans'. -/
def seqPlansCard : Claim7 := { stood := { row := seqPlansRow, standIns := [], harness := (true, "6801aaa123717e4ffc28013b40b464ca989b3c86bacdad2027bdeb77e6e839c8"), looks := true }, kinds := [], alts := [], laidByText := true, laidKinds := [.data], laidTests := true, laidLooks := .later }
def SeqPlansCardSaid : Prop := Claim7.holds Tryz.pinned (.plain (OpenSpec.ofChange seqPlansSpec)) seqPlansCard

/-- THE TIED CARD OF 'berthagelaw13.SeqRefuses'. -/
def seqRefusesCard : Claim7 := { stood := { row := seqRefusesRow, standIns := [], harness := (true, "6801aaa123717e4ffc28013b40b464ca989b3c86bacdad2027bdeb77e6e839c8"), looks := true }, kinds := [], alts := [], laidByText := true, laidKinds := [.data], laidTests := true, laidLooks := .later }
def SeqRefusesCardSaid : Prop := Claim7.holds Tryz.pinned (.plain (OpenSpec.ofChange seqRefusesSpec)) seqRefusesCard

/-- THE TIED CARD OF 'berthagelaw13.SeqItems'. -/
def seqItemsCard : Claim7 := { stood := { row := seqItemsRow, standIns := [], harness := (true, "6801aaa123717e4ffc28013b40b464ca989b3c86bacdad2027bdeb77e6e839c8"), looks := true }, kinds := [], alts := [], laidByText := true, laidKinds := [.data], laidTests := true, laidLooks := .later }
def SeqItemsCardSaid : Prop := Claim7.holds Tryz.pinned (.plain (OpenSpec.ofChange seqItemsSpec)) seqItemsCard

/-- THE TIED CARD OF 'berthagelaw21.LineReplays'. -/
def lineReplaysCard : Claim7 := { stood := { row := lineReplaysRow, standIns := [], harness := (true, "6801aaa123717e4ffc28013b40b464ca989b3c86bacdad2027bdeb77e6e839c8"), looks := true }, kinds := [], alts := [], laidByText := true, laidKinds := [.data], laidTests := true, laidLooks := .later }
def LineReplaysCardSaid : Prop := Claim7.holds Tryz.pinned (.plain (OpenSpec.ofChange lineReplaysSpec)) lineReplaysCard

/-- THE TIED CARD OF 'berthagelaw21.LineAgrees'. -/
def lineAgreesCard : Claim7 := { stood := { row := lineAgreesRow, standIns := [], harness := (true, "6801aaa123717e4ffc28013b40b464ca989b3c86bacdad2027bdeb77e6e839c8"), looks := true }, kinds := [], alts := [], laidByText := true, laidKinds := [.data], laidTests := true, laidLooks := .later }
def LineAgreesCardSaid : Prop := Claim7.holds Tryz.pinned (.plain (OpenSpec.ofChange lineAgreesSpec)) lineAgreesCard

/-- THE TIED CARD OF 'berthagelaw40.SnapNobody'. -/
def snapNobodyCard : Claim7 := { stood := { row := snapNobodyRow, standIns := [], harness := (true, "6801aaa123717e4ffc28013b40b464ca989b3c86bacdad2027bdeb77e6e839c8"), looks := true }, kinds := [], alts := [], laidByText := true, laidKinds := [.data], laidTests := true, laidLooks := .later }
def SnapNobodyCardSaid : Prop := Claim7.holds Tryz.pinned (.plain (OpenSpec.ofChange snapNobodySpec)) snapNobodyCard

/-- THE TIED CARD OF 'berthagetop.TopAlone'. -/
def topAloneCard : Claim7 := { stood := { row := topAloneRow, standIns := [], harness := (true, "6801aaa123717e4ffc28013b40b464ca989b3c86bacdad2027bdeb77e6e839c8"), looks := true }, kinds := [], alts := [], laidByText := true, laidKinds := [.data], laidTests := true, laidLooks := .later }
def TopAloneCardSaid : Prop := Claim7.holds Tryz.pinned (.plain (OpenSpec.ofChange topAloneSpec)) topAloneCard

/-- THE TIED CARD OF 'berthagelaw17.OpNobody'. -/
def opNobodyCard : Claim7 := { stood := { row := opNobodyRow, standIns := [], harness := (true, "6801aaa123717e4ffc28013b40b464ca989b3c86bacdad2027bdeb77e6e839c8"), looks := true }, kinds := [], alts := [], laidByText := true, laidKinds := [.data], laidTests := true, laidLooks := .later }
def OpNobodyCardSaid : Prop := Claim7.holds Tryz.pinned (.plain (OpenSpec.ofChange opNobodySpec)) opNobodyCard

/-- THE SECOND FORM's CARD OF 'berthagelaw12.CorePlays'. -/
def corePlaysUptoCard : Claim7 := { stood := { row := corePlaysUptoRow, standIns := [], harness := (true, "6801aaa123717e4ffc28013b40b464ca989b3c86bacdad2027bdeb77e6e839c8"), looks := true }, kinds := [], alts := [], laidByText := true, laidKinds := [.data], laidTests := true, laidLooks := .later }
def CorePlaysUptoCardSaid : Prop := Claim7.holds Tryz.pinned (.plain (OpenSpec.upto corePlaysSpec)) corePlaysUptoCard

/-- THE SECOND FORM's CARD OF 'berthagelaw12.CoreWants'. -/
def coreWantsUptoCard : Claim7 := { stood := { row := coreWantsUptoRow, standIns := [], harness := (true, "6801aaa123717e4ffc28013b40b464ca989b3c86bacdad2027bdeb77e6e839c8"), looks := true }, kinds := [], alts := [], laidByText := true, laidKinds := [.data], laidTests := true, laidLooks := .later }
def CoreWantsUptoCardSaid : Prop := Claim7.holds Tryz.pinned (.plain (OpenSpec.upto coreWantsSpec)) coreWantsUptoCard

/-- THE SECOND FORM's CARD OF 'berthagelaw12.CoreTwins'. -/
def coreTwinsUptoCard : Claim7 := { stood := { row := coreTwinsUptoRow, standIns := [], harness := (true, "6801aaa123717e4ffc28013b40b464ca989b3c86bacdad2027bdeb77e6e839c8"), looks := true }, kinds := [], alts := [], laidByText := true, laidKinds := [.data], laidTests := true, laidLooks := .later }
def CoreTwinsUptoCardSaid : Prop := Claim7.holds Tryz.pinned (.plain (OpenSpec.upto coreTwinsSpec)) coreTwinsUptoCard

/-- THE SECOND FORM's CARD OF 'berthagelaw13.SeqPlays'. -/
def seqPlaysUptoCard : Claim7 := { stood := { row := seqPlaysUptoRow, standIns := [], harness := (true, "6801aaa123717e4ffc28013b40b464ca989b3c86bacdad2027bdeb77e6e839c8"), looks := true }, kinds := [], alts := [], laidByText := true, laidKinds := [.data], laidTests := true, laidLooks := .later }
def SeqPlaysUptoCardSaid : Prop := Claim7.holds Tryz.pinned (.plain (OpenSpec.upto seqPlaysSpec)) seqPlaysUptoCard

/-- THE SECOND FORM's CARD OF 'berthagelaw13.SeqPlans'. -/
def seqPlansUptoCard : Claim7 := { stood := { row := seqPlansUptoRow, standIns := [], harness := (true, "6801aaa123717e4ffc28013b40b464ca989b3c86bacdad2027bdeb77e6e839c8"), looks := true }, kinds := [], alts := [], laidByText := true, laidKinds := [.data], laidTests := true, laidLooks := .later }
def SeqPlansUptoCardSaid : Prop := Claim7.holds Tryz.pinned (.plain (OpenSpec.upto seqPlansSpec)) seqPlansUptoCard

/-- THE SECOND FORM's CARD OF 'berthagelaw13.SeqRefuses'. -/
def seqRefusesUptoCard : Claim7 := { stood := { row := seqRefusesUptoRow, standIns := [], harness := (true, "6801aaa123717e4ffc28013b40b464ca989b3c86bacdad2027bdeb77e6e839c8"), looks := true }, kinds := [], alts := [], laidByText := true, laidKinds := [.data], laidTests := true, laidLooks := .later }
def SeqRefusesUptoCardSaid : Prop := Claim7.holds Tryz.pinned (.plain (OpenSpec.upto seqRefusesSpec)) seqRefusesUptoCard

/-- THE SECOND FORM's CARD OF 'berthagelaw13.SeqItems'. -/
def seqItemsUptoCard : Claim7 := { stood := { row := seqItemsUptoRow, standIns := [], harness := (true, "6801aaa123717e4ffc28013b40b464ca989b3c86bacdad2027bdeb77e6e839c8"), looks := true }, kinds := [], alts := [], laidByText := true, laidKinds := [.data], laidTests := true, laidLooks := .later }
def SeqItemsUptoCardSaid : Prop := Claim7.holds Tryz.pinned (.plain (OpenSpec.upto seqItemsSpec)) seqItemsUptoCard

/-- THE SECOND FORM's CARD OF 'berthagelaw21.LineReplays'. -/
def lineReplaysUptoCard : Claim7 := { stood := { row := lineReplaysUptoRow, standIns := [], harness := (true, "6801aaa123717e4ffc28013b40b464ca989b3c86bacdad2027bdeb77e6e839c8"), looks := true }, kinds := [], alts := [], laidByText := true, laidKinds := [.data], laidTests := true, laidLooks := .later }
def LineReplaysUptoCardSaid : Prop := Claim7.holds Tryz.pinned (.plain (OpenSpec.upto lineReplaysSpec)) lineReplaysUptoCard

/-- THE SECOND FORM's CARD OF 'berthagelaw21.LineAgrees'. -/
def lineAgreesUptoCard : Claim7 := { stood := { row := lineAgreesUptoRow, standIns := [], harness := (true, "6801aaa123717e4ffc28013b40b464ca989b3c86bacdad2027bdeb77e6e839c8"), looks := true }, kinds := [], alts := [], laidByText := true, laidKinds := [.data], laidTests := true, laidLooks := .later }
def LineAgreesUptoCardSaid : Prop := Claim7.holds Tryz.pinned (.plain (OpenSpec.upto lineAgreesSpec)) lineAgreesUptoCard

/-- THE SECOND FORM's CARD OF 'berthagelaw40.SnapNobody'. -/
def snapNobodyUptoCard : Claim7 := { stood := { row := snapNobodyUptoRow, standIns := [], harness := (true, "6801aaa123717e4ffc28013b40b464ca989b3c86bacdad2027bdeb77e6e839c8"), looks := true }, kinds := [], alts := [], laidByText := true, laidKinds := [.data], laidTests := true, laidLooks := .later }
def SnapNobodyUptoCardSaid : Prop := Claim7.holds Tryz.pinned (.plain (OpenSpec.upto snapNobodySpec)) snapNobodyUptoCard

/-- THE SECOND FORM's CARD OF 'berthagetop.TopAlone'. -/
def topAloneUptoCard : Claim7 := { stood := { row := topAloneUptoRow, standIns := [], harness := (true, "6801aaa123717e4ffc28013b40b464ca989b3c86bacdad2027bdeb77e6e839c8"), looks := true }, kinds := [], alts := [], laidByText := true, laidKinds := [.data], laidTests := true, laidLooks := .later }
def TopAloneUptoCardSaid : Prop := Claim7.holds Tryz.pinned (.plain (OpenSpec.upto topAloneSpec)) topAloneUptoCard

/-- THE SECOND FORM's CARD OF 'berthagelaw17.OpNobody'. -/
def opNobodyUptoCard : Claim7 := { stood := { row := opNobodyUptoRow, standIns := [], harness := (true, "6801aaa123717e4ffc28013b40b464ca989b3c86bacdad2027bdeb77e6e839c8"), looks := true }, kinds := [], alts := [], laidByText := true, laidKinds := [.data], laidTests := true, laidLooks := .later }
def OpNobodyUptoCardSaid : Prop := Claim7.holds Tryz.pinned (.plain (OpenSpec.upto opNobodySpec)) opNobodyUptoCard
end Rows
end Go.Proofs.YtnoinchifbckcaaGreatDoor
