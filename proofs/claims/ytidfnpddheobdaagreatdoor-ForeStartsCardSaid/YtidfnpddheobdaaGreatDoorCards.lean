/-
  DERIVED. GIVEN WITH THE SEED: THE CARDS: each row of YtidfnpddheobdaaGreatDoorRows.lean that lists a variable, with what it lists TIED to the program's text (the seventh form; the later family's looks); each row that meets fmt, with fmt's text TOLD by the authors' own Lean function (tested against real Go, not proved from fmt's source: count such statements apart). THE CARD IS WHAT COUNTS. Prove the row's statement (the work); the ties are given (YtidfnpddheobdaaGreatDoorTie.lean); close each card by the builder's one call (the guide's Derived/Test/ToyasCard.lean, 'card_holds'). Laid BY PROGRAM, IN A SANDBOX (cutbox-door.mjs). By AI agents, Wed Nov 11 2026. No macro, syntax, notation, axiom, sorry.
-/
import Derived.Test.YtidfnpddheobdaaGreatDoorRows
import GoSem.ClaimSeven
namespace Go.Proofs.YtidfnpddheobdaaGreatDoor
namespace Rows

/-- THE TIED CARD OF 'berthagelaw15.PassLowers'. -/
def passLowersCard : Claim7 := { stood := { row := passLowersRow, standIns := [], harness := (true, "ea9180e27efbc601ca9af12b318473e25e0b4f67efbd6ee24e4685bfe7c8aef0"), looks := false }, kinds := [], alts := [], laidByText := true, laidKinds := [.data], laidTests := true, laidLooks := .later }
def PassLowersCardSaid : Prop := Claim7.holds Tryz.pinned (.plain (OpenSpec.ofChange passLowersSpec)) passLowersCard

/-- THE TIED CARD OF 'berthagelaw17.OpLocks'. -/
def opLocksCard : Claim7 := { stood := { row := opLocksRow, standIns := [], harness := (true, "ea9180e27efbc601ca9af12b318473e25e0b4f67efbd6ee24e4685bfe7c8aef0"), looks := false }, kinds := [], alts := [], laidByText := true, laidKinds := [.data], laidTests := true, laidLooks := .later }
def OpLocksCardSaid : Prop := Claim7.holds Tryz.pinned (.plain (OpenSpec.ofChange opLocksSpec)) opLocksCard

/-- THE TIED CARD OF 'berthagelaw17.OpWaits'. -/
def opWaitsCard : Claim7 := { stood := { row := opWaitsRow, standIns := [], harness := (true, "ea9180e27efbc601ca9af12b318473e25e0b4f67efbd6ee24e4685bfe7c8aef0"), looks := false }, kinds := [], alts := [], laidByText := true, laidKinds := [.data], laidTests := true, laidLooks := .later }
def OpWaitsCardSaid : Prop := Claim7.holds Tryz.pinned (.plain (OpenSpec.ofChange opWaitsSpec)) opWaitsCard

/-- THE TIED CARD OF 'berthagelaw15.PassQuiet'. -/
def passQuietCard : Claim7 := { stood := { row := passQuietRow, standIns := [], harness := (true, "ea9180e27efbc601ca9af12b318473e25e0b4f67efbd6ee24e4685bfe7c8aef0"), looks := false }, kinds := [], alts := [], laidByText := true, laidKinds := [.data], laidTests := true, laidLooks := .later }
def PassQuietCardSaid : Prop := Claim7.holds Tryz.pinned (.plain (OpenSpec.ofChange passQuietSpec)) passQuietCard

/-- THE TIED CARD OF 'berthagelaw15.PassRuns'. -/
def passRunsCard : Claim7 := { stood := { row := passRunsRow, standIns := [], harness := (true, "ea9180e27efbc601ca9af12b318473e25e0b4f67efbd6ee24e4685bfe7c8aef0"), looks := false }, kinds := [], alts := [], laidByText := true, laidKinds := [.data], laidTests := true, laidLooks := .later }
def PassRunsCardSaid : Prop := Claim7.holds Tryz.pinned (.plain (OpenSpec.ofChange passRunsSpec)) passRunsCard

/-- THE TIED CARD OF 'berthagelaw15.PassOpen'. -/
def passOpenCard : Claim7 := { stood := { row := passOpenRow, standIns := [], harness := (true, "ea9180e27efbc601ca9af12b318473e25e0b4f67efbd6ee24e4685bfe7c8aef0"), looks := false }, kinds := [], alts := [], laidByText := true, laidKinds := [.data], laidTests := true, laidLooks := .later }
def PassOpenCardSaid : Prop := Claim7.holds Tryz.pinned (.plain (OpenSpec.ofChange passOpenSpec)) passOpenCard

/-- THE TIED CARD OF 'berthagelaw17.OpAlone'. -/
def opAloneCard : Claim7 := { stood := { row := opAloneRow, standIns := [], harness := (true, "ea9180e27efbc601ca9af12b318473e25e0b4f67efbd6ee24e4685bfe7c8aef0"), looks := false }, kinds := [], alts := [], laidByText := true, laidKinds := [.data], laidTests := true, laidLooks := .later }
def OpAloneCardSaid : Prop := Claim7.holds Tryz.pinned (.plain (OpenSpec.ofChange opAloneSpec)) opAloneCard

/-- THE TIED CARD OF 'berthagelaw37.ForeStarts'. -/
def foreStartsCard : Claim7 := { stood := { row := foreStartsRow, standIns := [], harness := (true, "ea9180e27efbc601ca9af12b318473e25e0b4f67efbd6ee24e4685bfe7c8aef0"), looks := false }, kinds := [], alts := [], laidByText := true, laidKinds := [.data], laidTests := true, laidLooks := .later }
def ForeStartsCardSaid : Prop := Claim7.holds Tryz.pinned (.plain (OpenSpec.ofChange foreStartsSpec)) foreStartsCard

/-- THE TIED CARD OF 'berthagelaw12.CoreSound'. -/
def coreSoundCard : Claim7 := { stood := { row := coreSoundRow, standIns := [], harness := (true, "ea9180e27efbc601ca9af12b318473e25e0b4f67efbd6ee24e4685bfe7c8aef0"), looks := false }, kinds := [], alts := [], laidByText := true, laidKinds := [.data], laidTests := true, laidLooks := .later }
def CoreSoundCardSaid : Prop := Claim7.holds Tryz.pinned (.plain (OpenSpec.ofChange coreSoundSpec)) coreSoundCard

/-- THE TIED CARD OF 'berthagelaw22.AuditSound'. -/
def auditSoundCard : Claim7 := { stood := { row := auditSoundRow, standIns := [], harness := (true, "ea9180e27efbc601ca9af12b318473e25e0b4f67efbd6ee24e4685bfe7c8aef0"), looks := false }, kinds := [], alts := [], laidByText := true, laidKinds := [.data], laidTests := true, laidLooks := .later }
def AuditSoundCardSaid : Prop := Claim7.holds Tryz.pinned (.plain (OpenSpec.ofChange auditSoundSpec)) auditSoundCard

/-- THE TIED CARD OF 'berthagelaw22.AuditTaken'. -/
def auditTakenCard : Claim7 := { stood := { row := auditTakenRow, standIns := [], harness := (true, "ea9180e27efbc601ca9af12b318473e25e0b4f67efbd6ee24e4685bfe7c8aef0"), looks := false }, kinds := [], alts := [], laidByText := true, laidKinds := [.data], laidTests := true, laidLooks := .later }
def AuditTakenCardSaid : Prop := Claim7.holds Tryz.pinned (.plain (OpenSpec.ofChange auditTakenSpec)) auditTakenCard

/-- THE TIED CARD OF 'berthagelaw22.AuditSame'. -/
def auditSameCard : Claim7 := { stood := { row := auditSameRow, standIns := [], harness := (true, "ea9180e27efbc601ca9af12b318473e25e0b4f67efbd6ee24e4685bfe7c8aef0"), looks := false }, kinds := [], alts := [], laidByText := true, laidKinds := [.data], laidTests := true, laidLooks := .later }
def AuditSameCardSaid : Prop := Claim7.holds Tryz.pinned (.plain (OpenSpec.ofChange auditSameSpec)) auditSameCard

/-- THE SECOND FORM's CARD OF 'berthagelaw15.PassLowers'. -/
def passLowersUptoCard : Claim7 := { stood := { row := passLowersUptoRow, standIns := [], harness := (true, "ea9180e27efbc601ca9af12b318473e25e0b4f67efbd6ee24e4685bfe7c8aef0"), looks := false }, kinds := [], alts := [], laidByText := true, laidKinds := [.data], laidTests := true, laidLooks := .later }
def PassLowersUptoCardSaid : Prop := Claim7.holds Tryz.pinned (.plain (OpenSpec.upto passLowersSpec)) passLowersUptoCard

/-- THE SECOND FORM's CARD OF 'berthagelaw17.OpLocks'. -/
def opLocksUptoCard : Claim7 := { stood := { row := opLocksUptoRow, standIns := [], harness := (true, "ea9180e27efbc601ca9af12b318473e25e0b4f67efbd6ee24e4685bfe7c8aef0"), looks := false }, kinds := [], alts := [], laidByText := true, laidKinds := [.data], laidTests := true, laidLooks := .later }
def OpLocksUptoCardSaid : Prop := Claim7.holds Tryz.pinned (.plain (OpenSpec.upto opLocksSpec)) opLocksUptoCard

/-- THE SECOND FORM's CARD OF 'berthagelaw17.OpWaits'. -/
def opWaitsUptoCard : Claim7 := { stood := { row := opWaitsUptoRow, standIns := [], harness := (true, "ea9180e27efbc601ca9af12b318473e25e0b4f67efbd6ee24e4685bfe7c8aef0"), looks := false }, kinds := [], alts := [], laidByText := true, laidKinds := [.data], laidTests := true, laidLooks := .later }
def OpWaitsUptoCardSaid : Prop := Claim7.holds Tryz.pinned (.plain (OpenSpec.upto opWaitsSpec)) opWaitsUptoCard

/-- THE SECOND FORM's CARD OF 'berthagelaw15.PassQuiet'. -/
def passQuietUptoCard : Claim7 := { stood := { row := passQuietUptoRow, standIns := [], harness := (true, "ea9180e27efbc601ca9af12b318473e25e0b4f67efbd6ee24e4685bfe7c8aef0"), looks := false }, kinds := [], alts := [], laidByText := true, laidKinds := [.data], laidTests := true, laidLooks := .later }
def PassQuietUptoCardSaid : Prop := Claim7.holds Tryz.pinned (.plain (OpenSpec.upto passQuietSpec)) passQuietUptoCard

/-- THE SECOND FORM's CARD OF 'berthagelaw15.PassRuns'. -/
def passRunsUptoCard : Claim7 := { stood := { row := passRunsUptoRow, standIns := [], harness := (true, "ea9180e27efbc601ca9af12b318473e25e0b4f67efbd6ee24e4685bfe7c8aef0"), looks := false }, kinds := [], alts := [], laidByText := true, laidKinds := [.data], laidTests := true, laidLooks := .later }
def PassRunsUptoCardSaid : Prop := Claim7.holds Tryz.pinned (.plain (OpenSpec.upto passRunsSpec)) passRunsUptoCard

/-- THE SECOND FORM's CARD OF 'berthagelaw15.PassOpen'. -/
def passOpenUptoCard : Claim7 := { stood := { row := passOpenUptoRow, standIns := [], harness := (true, "ea9180e27efbc601ca9af12b318473e25e0b4f67efbd6ee24e4685bfe7c8aef0"), looks := false }, kinds := [], alts := [], laidByText := true, laidKinds := [.data], laidTests := true, laidLooks := .later }
def PassOpenUptoCardSaid : Prop := Claim7.holds Tryz.pinned (.plain (OpenSpec.upto passOpenSpec)) passOpenUptoCard

/-- THE SECOND FORM's CARD OF 'berthagelaw17.OpAlone'. -/
def opAloneUptoCard : Claim7 := { stood := { row := opAloneUptoRow, standIns := [], harness := (true, "ea9180e27efbc601ca9af12b318473e25e0b4f67efbd6ee24e4685bfe7c8aef0"), looks := false }, kinds := [], alts := [], laidByText := true, laidKinds := [.data], laidTests := true, laidLooks := .later }
def OpAloneUptoCardSaid : Prop := Claim7.holds Tryz.pinned (.plain (OpenSpec.upto opAloneSpec)) opAloneUptoCard

/-- THE SECOND FORM's CARD OF 'berthagelaw37.ForeStarts'. -/
def foreStartsUptoCard : Claim7 := { stood := { row := foreStartsUptoRow, standIns := [], harness := (true, "ea9180e27efbc601ca9af12b318473e25e0b4f67efbd6ee24e4685bfe7c8aef0"), looks := false }, kinds := [], alts := [], laidByText := true, laidKinds := [.data], laidTests := true, laidLooks := .later }
def ForeStartsUptoCardSaid : Prop := Claim7.holds Tryz.pinned (.plain (OpenSpec.upto foreStartsSpec)) foreStartsUptoCard

/-- THE SECOND FORM's CARD OF 'berthagelaw12.CoreSound'. -/
def coreSoundUptoCard : Claim7 := { stood := { row := coreSoundUptoRow, standIns := [], harness := (true, "ea9180e27efbc601ca9af12b318473e25e0b4f67efbd6ee24e4685bfe7c8aef0"), looks := false }, kinds := [], alts := [], laidByText := true, laidKinds := [.data], laidTests := true, laidLooks := .later }
def CoreSoundUptoCardSaid : Prop := Claim7.holds Tryz.pinned (.plain (OpenSpec.upto coreSoundSpec)) coreSoundUptoCard

/-- THE SECOND FORM's CARD OF 'berthagelaw22.AuditSound'. -/
def auditSoundUptoCard : Claim7 := { stood := { row := auditSoundUptoRow, standIns := [], harness := (true, "ea9180e27efbc601ca9af12b318473e25e0b4f67efbd6ee24e4685bfe7c8aef0"), looks := false }, kinds := [], alts := [], laidByText := true, laidKinds := [.data], laidTests := true, laidLooks := .later }
def AuditSoundUptoCardSaid : Prop := Claim7.holds Tryz.pinned (.plain (OpenSpec.upto auditSoundSpec)) auditSoundUptoCard

/-- THE SECOND FORM's CARD OF 'berthagelaw22.AuditTaken'. -/
def auditTakenUptoCard : Claim7 := { stood := { row := auditTakenUptoRow, standIns := [], harness := (true, "ea9180e27efbc601ca9af12b318473e25e0b4f67efbd6ee24e4685bfe7c8aef0"), looks := false }, kinds := [], alts := [], laidByText := true, laidKinds := [.data], laidTests := true, laidLooks := .later }
def AuditTakenUptoCardSaid : Prop := Claim7.holds Tryz.pinned (.plain (OpenSpec.upto auditTakenSpec)) auditTakenUptoCard

/-- THE SECOND FORM's CARD OF 'berthagelaw22.AuditSame'. -/
def auditSameUptoCard : Claim7 := { stood := { row := auditSameUptoRow, standIns := [], harness := (true, "ea9180e27efbc601ca9af12b318473e25e0b4f67efbd6ee24e4685bfe7c8aef0"), looks := false }, kinds := [], alts := [], laidByText := true, laidKinds := [.data], laidTests := true, laidLooks := .later }
def AuditSameUptoCardSaid : Prop := Claim7.holds Tryz.pinned (.plain (OpenSpec.upto auditSameSpec)) auditSameUptoCard
end Rows
end Go.Proofs.YtidfnpddheobdaaGreatDoor
