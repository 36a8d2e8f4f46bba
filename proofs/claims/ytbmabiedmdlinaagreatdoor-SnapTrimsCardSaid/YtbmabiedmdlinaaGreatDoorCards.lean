/-
  DERIVED. GIVEN WITH THE SEED: THE CARDS: each row of YtbmabiedmdlinaaGreatDoorRows.lean that lists a variable, with what it lists TIED to the program's text (the seventh form; the later family's looks); each row that meets fmt, with fmt's text TOLD by the authors' own Lean function (tested against real Go, not proved from fmt's source: count such statements apart). THE CARD IS WHAT COUNTS. Prove the row's statement (the work); the ties are given (YtbmabiedmdlinaaGreatDoorTie.lean); close each card by the builder's one call (the guide's Derived/Test/ToyasCard.lean, 'card_holds'). Laid BY PROGRAM, IN A SANDBOX (cutbox-door.mjs). By AI agents, Wed Nov 11 2026. No macro, syntax, notation, axiom, sorry.
-/
import Derived.Test.YtbmabiedmdlinaaGreatDoorRows
import GoSem.ClaimSeven
namespace Go.Proofs.YtbmabiedmdlinaaGreatDoor
namespace Rows

/-- THE TIED CARD OF 'berthagelaw17.OpAlone'. -/
def opAloneCard : Claim7 := { stood := { row := opAloneRow, standIns := [], harness := (true, "41b0133c9487d7fe668cacdd6db145e68eca839d217f8f5632f377e9be05a374"), looks := false }, kinds := [], alts := [], laidByText := true, laidKinds := [.data], laidTests := true, laidLooks := .later }
def OpAloneCardSaid : Prop := Claim7.holds Tryz.pinned (.plain (OpenSpec.ofChange opAloneSpec)) opAloneCard

/-- THE TIED CARD OF 'berthagelaw18.FillNobody'. -/
def fillNobodyCard : Claim7 := { stood := { row := fillNobodyRow, standIns := [], harness := (true, "41b0133c9487d7fe668cacdd6db145e68eca839d217f8f5632f377e9be05a374"), looks := false }, kinds := [], alts := [], laidByText := true, laidKinds := [.data], laidTests := true, laidLooks := .later }
def FillNobodyCardSaid : Prop := Claim7.holds Tryz.pinned (.plain (OpenSpec.ofChange fillNobodySpec)) fillNobodyCard

/-- THE TIED CARD OF 'berthagelaw18.FillWaits'. -/
def fillWaitsCard : Claim7 := { stood := { row := fillWaitsRow, standIns := [], harness := (true, "41b0133c9487d7fe668cacdd6db145e68eca839d217f8f5632f377e9be05a374"), looks := false }, kinds := [], alts := [], laidByText := true, laidKinds := [.data], laidTests := true, laidLooks := .later }
def FillWaitsCardSaid : Prop := Claim7.holds Tryz.pinned (.plain (OpenSpec.ofChange fillWaitsSpec)) fillWaitsCard

/-- THE TIED CARD OF 'berthagelaw18.FillAlone'. -/
def fillAloneCard : Claim7 := { stood := { row := fillAloneRow, standIns := [], harness := (true, "41b0133c9487d7fe668cacdd6db145e68eca839d217f8f5632f377e9be05a374"), looks := false }, kinds := [], alts := [], laidByText := true, laidKinds := [.data], laidTests := true, laidLooks := .later }
def FillAloneCardSaid : Prop := Claim7.holds Tryz.pinned (.plain (OpenSpec.ofChange fillAloneSpec)) fillAloneCard

/-- THE TIED CARD OF 'berthagelaw40.SnapNobody'. -/
def snapNobodyCard : Claim7 := { stood := { row := snapNobodyRow, standIns := [], harness := (true, "41b0133c9487d7fe668cacdd6db145e68eca839d217f8f5632f377e9be05a374"), looks := false }, kinds := [], alts := [], laidByText := true, laidKinds := [.data], laidTests := true, laidLooks := .later }
def SnapNobodyCardSaid : Prop := Claim7.holds Tryz.pinned (.plain (OpenSpec.ofChange snapNobodySpec)) snapNobodyCard

/-- THE TIED CARD OF 'berthagelaw40.SnapTrims'. -/
def snapTrimsCard : Claim7 := { stood := { row := snapTrimsRow, standIns := [], harness := (true, "41b0133c9487d7fe668cacdd6db145e68eca839d217f8f5632f377e9be05a374"), looks := false }, kinds := [], alts := [], laidByText := true, laidKinds := [.data], laidTests := true, laidLooks := .later }
def SnapTrimsCardSaid : Prop := Claim7.holds Tryz.pinned (.plain (OpenSpec.ofChange snapTrimsSpec)) snapTrimsCard

/-- THE TIED CARD OF 'berthagelaw40.SnapActs'. -/
def snapActsCard : Claim7 := { stood := { row := snapActsRow, standIns := [], harness := (true, "41b0133c9487d7fe668cacdd6db145e68eca839d217f8f5632f377e9be05a374"), looks := false }, kinds := [], alts := [], laidByText := true, laidKinds := [.data], laidTests := true, laidLooks := .later }
def SnapActsCardSaid : Prop := Claim7.holds Tryz.pinned (.plain (OpenSpec.ofChange snapActsSpec)) snapActsCard

/-- THE TIED CARD OF 'berthagelaw40.SnapReads'. -/
def snapReadsCard : Claim7 := { stood := { row := snapReadsRow, standIns := [], harness := (true, "41b0133c9487d7fe668cacdd6db145e68eca839d217f8f5632f377e9be05a374"), looks := false }, kinds := [], alts := [], laidByText := true, laidKinds := [.data], laidTests := true, laidLooks := .later }
def SnapReadsCardSaid : Prop := Claim7.holds Tryz.pinned (.plain (OpenSpec.ofChange snapReadsSpec)) snapReadsCard

/-- THE TIED CARD OF 'berthagelaw37.ForeComes'. -/
def foreComesCard : Claim7 := { stood := { row := foreComesRow, standIns := [], harness := (true, "41b0133c9487d7fe668cacdd6db145e68eca839d217f8f5632f377e9be05a374"), looks := false }, kinds := [], alts := [], laidByText := true, laidKinds := [.data], laidTests := true, laidLooks := .later }
def ForeComesCardSaid : Prop := Claim7.holds Tryz.pinned (.plain (OpenSpec.ofChange foreComesSpec)) foreComesCard

/-- THE TIED CARD OF 'berthagelaw37.ForeWhat'. -/
def foreWhatCard : Claim7 := { stood := { row := foreWhatRow, standIns := [], harness := (true, "41b0133c9487d7fe668cacdd6db145e68eca839d217f8f5632f377e9be05a374"), looks := false }, kinds := [], alts := [], laidByText := true, laidKinds := [.data], laidTests := true, laidLooks := .later }
def ForeWhatCardSaid : Prop := Claim7.holds Tryz.pinned (.plain (OpenSpec.ofChange foreWhatSpec)) foreWhatCard

/-- THE TIED CARD OF 'berthagelaw28.SimPlays'. -/
def simPlaysCard : Claim7 := { stood := { row := simPlaysRow, standIns := [], harness := (true, "41b0133c9487d7fe668cacdd6db145e68eca839d217f8f5632f377e9be05a374"), looks := false }, kinds := [], alts := [], laidByText := true, laidKinds := [.data], laidTests := true, laidLooks := .later }
def SimPlaysCardSaid : Prop := Claim7.holds Tryz.pinned (.plain (OpenSpec.ofChange simPlaysSpec)) simPlaysCard

/-- THE TIED CARD OF 'berthagelaw28.SimRefuses'. -/
def simRefusesCard : Claim7 := { stood := { row := simRefusesRow, standIns := [], harness := (true, "41b0133c9487d7fe668cacdd6db145e68eca839d217f8f5632f377e9be05a374"), looks := false }, kinds := [], alts := [], laidByText := true, laidKinds := [.data], laidTests := true, laidLooks := .later }
def SimRefusesCardSaid : Prop := Claim7.holds Tryz.pinned (.plain (OpenSpec.ofChange simRefusesSpec)) simRefusesCard

/-- THE SECOND FORM's CARD OF 'berthagelaw17.OpAlone'. -/
def opAloneUptoCard : Claim7 := { stood := { row := opAloneUptoRow, standIns := [], harness := (true, "41b0133c9487d7fe668cacdd6db145e68eca839d217f8f5632f377e9be05a374"), looks := false }, kinds := [], alts := [], laidByText := true, laidKinds := [.data], laidTests := true, laidLooks := .later }
def OpAloneUptoCardSaid : Prop := Claim7.holds Tryz.pinned (.plain (OpenSpec.upto opAloneSpec)) opAloneUptoCard

/-- THE SECOND FORM's CARD OF 'berthagelaw18.FillNobody'. -/
def fillNobodyUptoCard : Claim7 := { stood := { row := fillNobodyUptoRow, standIns := [], harness := (true, "41b0133c9487d7fe668cacdd6db145e68eca839d217f8f5632f377e9be05a374"), looks := false }, kinds := [], alts := [], laidByText := true, laidKinds := [.data], laidTests := true, laidLooks := .later }
def FillNobodyUptoCardSaid : Prop := Claim7.holds Tryz.pinned (.plain (OpenSpec.upto fillNobodySpec)) fillNobodyUptoCard

/-- THE SECOND FORM's CARD OF 'berthagelaw18.FillWaits'. -/
def fillWaitsUptoCard : Claim7 := { stood := { row := fillWaitsUptoRow, standIns := [], harness := (true, "41b0133c9487d7fe668cacdd6db145e68eca839d217f8f5632f377e9be05a374"), looks := false }, kinds := [], alts := [], laidByText := true, laidKinds := [.data], laidTests := true, laidLooks := .later }
def FillWaitsUptoCardSaid : Prop := Claim7.holds Tryz.pinned (.plain (OpenSpec.upto fillWaitsSpec)) fillWaitsUptoCard

/-- THE SECOND FORM's CARD OF 'berthagelaw18.FillAlone'. -/
def fillAloneUptoCard : Claim7 := { stood := { row := fillAloneUptoRow, standIns := [], harness := (true, "41b0133c9487d7fe668cacdd6db145e68eca839d217f8f5632f377e9be05a374"), looks := false }, kinds := [], alts := [], laidByText := true, laidKinds := [.data], laidTests := true, laidLooks := .later }
def FillAloneUptoCardSaid : Prop := Claim7.holds Tryz.pinned (.plain (OpenSpec.upto fillAloneSpec)) fillAloneUptoCard

/-- THE SECOND FORM's CARD OF 'berthagelaw40.SnapNobody'. -/
def snapNobodyUptoCard : Claim7 := { stood := { row := snapNobodyUptoRow, standIns := [], harness := (true, "41b0133c9487d7fe668cacdd6db145e68eca839d217f8f5632f377e9be05a374"), looks := false }, kinds := [], alts := [], laidByText := true, laidKinds := [.data], laidTests := true, laidLooks := .later }
def SnapNobodyUptoCardSaid : Prop := Claim7.holds Tryz.pinned (.plain (OpenSpec.upto snapNobodySpec)) snapNobodyUptoCard

/-- THE SECOND FORM's CARD OF 'berthagelaw40.SnapTrims'. -/
def snapTrimsUptoCard : Claim7 := { stood := { row := snapTrimsUptoRow, standIns := [], harness := (true, "41b0133c9487d7fe668cacdd6db145e68eca839d217f8f5632f377e9be05a374"), looks := false }, kinds := [], alts := [], laidByText := true, laidKinds := [.data], laidTests := true, laidLooks := .later }
def SnapTrimsUptoCardSaid : Prop := Claim7.holds Tryz.pinned (.plain (OpenSpec.upto snapTrimsSpec)) snapTrimsUptoCard

/-- THE SECOND FORM's CARD OF 'berthagelaw40.SnapActs'. -/
def snapActsUptoCard : Claim7 := { stood := { row := snapActsUptoRow, standIns := [], harness := (true, "41b0133c9487d7fe668cacdd6db145e68eca839d217f8f5632f377e9be05a374"), looks := false }, kinds := [], alts := [], laidByText := true, laidKinds := [.data], laidTests := true, laidLooks := .later }
def SnapActsUptoCardSaid : Prop := Claim7.holds Tryz.pinned (.plain (OpenSpec.upto snapActsSpec)) snapActsUptoCard

/-- THE SECOND FORM's CARD OF 'berthagelaw40.SnapReads'. -/
def snapReadsUptoCard : Claim7 := { stood := { row := snapReadsUptoRow, standIns := [], harness := (true, "41b0133c9487d7fe668cacdd6db145e68eca839d217f8f5632f377e9be05a374"), looks := false }, kinds := [], alts := [], laidByText := true, laidKinds := [.data], laidTests := true, laidLooks := .later }
def SnapReadsUptoCardSaid : Prop := Claim7.holds Tryz.pinned (.plain (OpenSpec.upto snapReadsSpec)) snapReadsUptoCard

/-- THE SECOND FORM's CARD OF 'berthagelaw37.ForeComes'. -/
def foreComesUptoCard : Claim7 := { stood := { row := foreComesUptoRow, standIns := [], harness := (true, "41b0133c9487d7fe668cacdd6db145e68eca839d217f8f5632f377e9be05a374"), looks := false }, kinds := [], alts := [], laidByText := true, laidKinds := [.data], laidTests := true, laidLooks := .later }
def ForeComesUptoCardSaid : Prop := Claim7.holds Tryz.pinned (.plain (OpenSpec.upto foreComesSpec)) foreComesUptoCard

/-- THE SECOND FORM's CARD OF 'berthagelaw37.ForeWhat'. -/
def foreWhatUptoCard : Claim7 := { stood := { row := foreWhatUptoRow, standIns := [], harness := (true, "41b0133c9487d7fe668cacdd6db145e68eca839d217f8f5632f377e9be05a374"), looks := false }, kinds := [], alts := [], laidByText := true, laidKinds := [.data], laidTests := true, laidLooks := .later }
def ForeWhatUptoCardSaid : Prop := Claim7.holds Tryz.pinned (.plain (OpenSpec.upto foreWhatSpec)) foreWhatUptoCard

/-- THE SECOND FORM's CARD OF 'berthagelaw28.SimPlays'. -/
def simPlaysUptoCard : Claim7 := { stood := { row := simPlaysUptoRow, standIns := [], harness := (true, "41b0133c9487d7fe668cacdd6db145e68eca839d217f8f5632f377e9be05a374"), looks := false }, kinds := [], alts := [], laidByText := true, laidKinds := [.data], laidTests := true, laidLooks := .later }
def SimPlaysUptoCardSaid : Prop := Claim7.holds Tryz.pinned (.plain (OpenSpec.upto simPlaysSpec)) simPlaysUptoCard

/-- THE SECOND FORM's CARD OF 'berthagelaw28.SimRefuses'. -/
def simRefusesUptoCard : Claim7 := { stood := { row := simRefusesUptoRow, standIns := [], harness := (true, "41b0133c9487d7fe668cacdd6db145e68eca839d217f8f5632f377e9be05a374"), looks := false }, kinds := [], alts := [], laidByText := true, laidKinds := [.data], laidTests := true, laidLooks := .later }
def SimRefusesUptoCardSaid : Prop := Claim7.holds Tryz.pinned (.plain (OpenSpec.upto simRefusesSpec)) simRefusesUptoCard
end Rows
end Go.Proofs.YtbmabiedmdlinaaGreatDoor
