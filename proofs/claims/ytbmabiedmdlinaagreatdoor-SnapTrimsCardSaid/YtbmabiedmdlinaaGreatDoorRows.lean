/-
  NARROWER THAN 'FOR EVERY INPUT', by the rows' own cells (each row's printed sentence says how): OpAlone: laid · FillNobody: laid · FillWaits: laid · FillAlone: laid · SnapNobody: laid · SnapTrims: laid · SnapActs: laid · SnapReads: laid · ForeComes: laid · ForeWhat: laid · SimPlays: laid · SimRefuses: laid.
  DERIVED. THE GIVEN ROWS OF THIS SEAT. 12 by the template 'for every input the law returns true; each argument reads behind the call as it read before'; 0 by the template 'total and deterministic' (their statements: YtbmabiedmdlinaaGreatDoorTotals.lean).
  GIVEN WITH THE SEED: the statements are not yours to turn. If you find one false, say at which input.
  Laid BY PROGRAM, IN A SANDBOX (cutbox-rows.mjs): the forced cells as the released guide's own fill.sh prints them over the translation e5c34d69a0370c19… (all of the seat's roots in one cut). By AI agents, Wed Nov 11 2026. No macro, syntax, notation, axiom, sorry.
-/
import Derived.Test.YtbmabiedmdlinaaGreatDoorChecked
import GoSem.Claim
import GoSem.ClaimJoined
import GoSem.ClaimMapViews
import Derived.JoinedTies
import Derived.KernelRfl
namespace Go.Proofs.YtbmabiedmdlinaaGreatDoor
/- THE CELL 'sum', in the pinned program and in every row, IS THE sha256 OF THE DUMP (.gsa) THAT YtbmabiedmdlinaaGreatDoorProg.lean LOADS. Nothing in Lean hashes anything: it is a label: what it is worth is what the hold of that sum in a sandbox is worth. -/
noncomputable def Tryz.pinned : Pinned := { name := "ytbmabiedmdlinaagreatdoor", sum := "e5c34d69a0370c1980716a610a97f75f5ffea3e010914733824866b272d05dc5", checked := Tryz.checked }
namespace Rows
def none {H : Type} : Left H := { results := [], args := [] }

/- WHAT THE LISTED PACKAGE-LEVEL VARIABLES READ AS WHEN THE CALL BEGINS. Each datum BY PROGRAM (the guide's laid-datum.mjs) off the statement by which the dump's own 'gosem.cut.vars' lays the variable. In a bare row this is a premise. The card (YtbmabiedmdlinaaGreatDoorCards.lean) ties it to the program's text. -/
def laid_math_bits_deBruijn64tab {H : Type} : DataW H := .agg [.lit (.int .u8 0), .lit (.int .u8 1), .lit (.int .u8 56), .lit (.int .u8 2), .lit (.int .u8 57), .lit (.int .u8 49), .lit (.int .u8 28), .lit (.int .u8 3), .lit (.int .u8 61), .lit (.int .u8 58), .lit (.int .u8 42), .lit (.int .u8 50), .lit (.int .u8 38), .lit (.int .u8 29), .lit (.int .u8 17), .lit (.int .u8 4), .lit (.int .u8 62), .lit (.int .u8 47), .lit (.int .u8 59), .lit (.int .u8 36), .lit (.int .u8 45), .lit (.int .u8 43), .lit (.int .u8 51), .lit (.int .u8 22), .lit (.int .u8 53), .lit (.int .u8 39), .lit (.int .u8 33), .lit (.int .u8 30), .lit (.int .u8 24), .lit (.int .u8 18), .lit (.int .u8 12), .lit (.int .u8 5), .lit (.int .u8 63), .lit (.int .u8 55), .lit (.int .u8 48), .lit (.int .u8 27), .lit (.int .u8 60), .lit (.int .u8 41), .lit (.int .u8 37), .lit (.int .u8 16), .lit (.int .u8 46), .lit (.int .u8 35), .lit (.int .u8 44), .lit (.int .u8 21), .lit (.int .u8 52), .lit (.int .u8 32), .lit (.int .u8 23), .lit (.int .u8 11), .lit (.int .u8 54), .lit (.int .u8 26), .lit (.int .u8 40), .lit (.int .u8 15), .lit (.int .u8 34), .lit (.int .u8 20), .lit (.int .u8 31), .lit (.int .u8 10), .lit (.int .u8 25), .lit (.int .u8 14), .lit (.int .u8 19), .lit (.int .u8 9), .lit (.int .u8 13), .lit (.int .u8 8), .lit (.int .u8 7), .lit (.int .u8 6)]

/-- 'berthagelaw17.OpAlone': WHATEVER THE INPUT: true; the input reads as it did. -/
def opAloneSpec : ChangeSpec := { name := "opAlone", fn := fun _ => fun
  | [d1, d2, d3] => { results := [.lit (.bool true)], args := [d1, d2, d3] }
  | _ => none }
def opAloneRow : OpenClaim := { program := "ytbmabiedmdlinaagreatdoor", sum := "e5c34d69a0370c1980716a610a97f75f5ffea3e010914733824866b272d05dc5", func := "berthage/berthagelaw17.OpAlone", spec := "opAlone", inPlace := ["slices.overlaps[berthage/api.Step]"], unfollowed := true, recurses := true, named := ["math/bits.deBruijn64tab"], apart := false, laid := [("math/bits.deBruijn64tab", laid_math_bits_deBruijn64tab)] }
def OpAloneSaid : Prop := opAloneRow.holds Tryz.pinned (OpenSpec.ofChange opAloneSpec)

/-- ITS FALSE NEIGHBOUR: 'it returns false'. Refute it at one input. -/
def opAloneWrong : ChangeSpec := { name := "opAlone", fn := fun _ => fun
  | [d1, d2, d3] => { results := [.lit (.bool false)], args := [d1, d2, d3] }
  | _ => none }
def OpAloneWrongFalsely : Prop := opAloneRow.holds Tryz.pinned (OpenSpec.ofChange opAloneWrong)

/-- 'berthagelaw18.FillNobody': WHATEVER THE INPUT: true; the input reads as it did. -/
def fillNobodySpec : ChangeSpec := { name := "fillNobody", fn := fun _ => fun
  | [d] => { results := [.lit (.bool true)], args := [d] }
  | _ => none }
def fillNobodyRow : OpenClaim := { program := "ytbmabiedmdlinaagreatdoor", sum := "e5c34d69a0370c1980716a610a97f75f5ffea3e010914733824866b272d05dc5", func := "berthage/berthagelaw18.FillNobody", spec := "fillNobody", inPlace := ["slices.overlaps[berthage/api.Step]"], unfollowed := true, recurses := true, named := ["math/bits.deBruijn64tab"], apart := false, laid := [("math/bits.deBruijn64tab", laid_math_bits_deBruijn64tab)] }
def FillNobodySaid : Prop := fillNobodyRow.holds Tryz.pinned (OpenSpec.ofChange fillNobodySpec)

/-- ITS FALSE NEIGHBOUR: 'it returns false'. Refute it at one input. -/
def fillNobodyWrong : ChangeSpec := { name := "fillNobody", fn := fun _ => fun
  | [d] => { results := [.lit (.bool false)], args := [d] }
  | _ => none }
def FillNobodyWrongFalsely : Prop := fillNobodyRow.holds Tryz.pinned (OpenSpec.ofChange fillNobodyWrong)

/-- 'berthagelaw18.FillWaits': WHATEVER THE INPUT: true; the input reads as it did. -/
def fillWaitsSpec : ChangeSpec := { name := "fillWaits", fn := fun _ => fun
  | [d1, d2, d3] => { results := [.lit (.bool true)], args := [d1, d2, d3] }
  | _ => none }
def fillWaitsRow : OpenClaim := { program := "ytbmabiedmdlinaagreatdoor", sum := "e5c34d69a0370c1980716a610a97f75f5ffea3e010914733824866b272d05dc5", func := "berthage/berthagelaw18.FillWaits", spec := "fillWaits", inPlace := ["slices.overlaps[berthage/api.Step]"], unfollowed := true, recurses := true, named := ["math/bits.deBruijn64tab"], apart := false, laid := [("math/bits.deBruijn64tab", laid_math_bits_deBruijn64tab)] }
def FillWaitsSaid : Prop := fillWaitsRow.holds Tryz.pinned (OpenSpec.ofChange fillWaitsSpec)

/-- ITS FALSE NEIGHBOUR: 'it returns false'. Refute it at one input. -/
def fillWaitsWrong : ChangeSpec := { name := "fillWaits", fn := fun _ => fun
  | [d1, d2, d3] => { results := [.lit (.bool false)], args := [d1, d2, d3] }
  | _ => none }
def FillWaitsWrongFalsely : Prop := fillWaitsRow.holds Tryz.pinned (OpenSpec.ofChange fillWaitsWrong)

/-- 'berthagelaw18.FillAlone': WHATEVER THE INPUT: true; the input reads as it did. -/
def fillAloneSpec : ChangeSpec := { name := "fillAlone", fn := fun _ => fun
  | [d1, d2, d3, d4] => { results := [.lit (.bool true)], args := [d1, d2, d3, d4] }
  | _ => none }
def fillAloneRow : OpenClaim := { program := "ytbmabiedmdlinaagreatdoor", sum := "e5c34d69a0370c1980716a610a97f75f5ffea3e010914733824866b272d05dc5", func := "berthage/berthagelaw18.FillAlone", spec := "fillAlone", inPlace := ["slices.overlaps[berthage/api.Step]"], unfollowed := true, recurses := true, named := ["math/bits.deBruijn64tab"], apart := false, laid := [("math/bits.deBruijn64tab", laid_math_bits_deBruijn64tab)] }
def FillAloneSaid : Prop := fillAloneRow.holds Tryz.pinned (OpenSpec.ofChange fillAloneSpec)

/-- ITS FALSE NEIGHBOUR: 'it returns false'. Refute it at one input. -/
def fillAloneWrong : ChangeSpec := { name := "fillAlone", fn := fun _ => fun
  | [d1, d2, d3, d4] => { results := [.lit (.bool false)], args := [d1, d2, d3, d4] }
  | _ => none }
def FillAloneWrongFalsely : Prop := fillAloneRow.holds Tryz.pinned (OpenSpec.ofChange fillAloneWrong)

/-- 'berthagelaw40.SnapNobody': WHATEVER THE INPUT: true; the input reads as it did. -/
def snapNobodySpec : ChangeSpec := { name := "snapNobody", fn := fun _ => fun
  | [d] => { results := [.lit (.bool true)], args := [d] }
  | _ => none }
def snapNobodyRow : OpenClaim := { program := "ytbmabiedmdlinaagreatdoor", sum := "e5c34d69a0370c1980716a610a97f75f5ffea3e010914733824866b272d05dc5", func := "berthage/berthagelaw40.SnapNobody", spec := "snapNobody", inPlace := ["slices.overlaps[berthage/api.Step]"], unfollowed := true, recurses := true, named := ["math/bits.deBruijn64tab"], apart := false, laid := [("math/bits.deBruijn64tab", laid_math_bits_deBruijn64tab)] }
def SnapNobodySaid : Prop := snapNobodyRow.holds Tryz.pinned (OpenSpec.ofChange snapNobodySpec)

/-- ITS FALSE NEIGHBOUR: 'it returns false'. Refute it at one input. -/
def snapNobodyWrong : ChangeSpec := { name := "snapNobody", fn := fun _ => fun
  | [d] => { results := [.lit (.bool false)], args := [d] }
  | _ => none }
def SnapNobodyWrongFalsely : Prop := snapNobodyRow.holds Tryz.pinned (OpenSpec.ofChange snapNobodyWrong)

/-- 'berthagelaw40.SnapTrims': WHATEVER THE INPUT: true; the input reads as it did. -/
def snapTrimsSpec : ChangeSpec := { name := "snapTrims", fn := fun _ => fun
  | [d1, d2] => { results := [.lit (.bool true)], args := [d1, d2] }
  | _ => none }
def snapTrimsRow : OpenClaim := { program := "ytbmabiedmdlinaagreatdoor", sum := "e5c34d69a0370c1980716a610a97f75f5ffea3e010914733824866b272d05dc5", func := "berthage/berthagelaw40.SnapTrims", spec := "snapTrims", inPlace := ["slices.overlaps[berthage/api.Step]"], unfollowed := true, recurses := true, named := ["math/bits.deBruijn64tab"], apart := false, laid := [("math/bits.deBruijn64tab", laid_math_bits_deBruijn64tab)] }
def SnapTrimsSaid : Prop := snapTrimsRow.holds Tryz.pinned (OpenSpec.ofChange snapTrimsSpec)

/-- ITS FALSE NEIGHBOUR: 'it returns false'. Refute it at one input. -/
def snapTrimsWrong : ChangeSpec := { name := "snapTrims", fn := fun _ => fun
  | [d1, d2] => { results := [.lit (.bool false)], args := [d1, d2] }
  | _ => none }
def SnapTrimsWrongFalsely : Prop := snapTrimsRow.holds Tryz.pinned (OpenSpec.ofChange snapTrimsWrong)

/-- 'berthagelaw40.SnapActs': WHATEVER THE INPUT: true; the input reads as it did. -/
def snapActsSpec : ChangeSpec := { name := "snapActs", fn := fun _ => fun
  | [d1, d2] => { results := [.lit (.bool true)], args := [d1, d2] }
  | _ => none }
def snapActsRow : OpenClaim := { program := "ytbmabiedmdlinaagreatdoor", sum := "e5c34d69a0370c1980716a610a97f75f5ffea3e010914733824866b272d05dc5", func := "berthage/berthagelaw40.SnapActs", spec := "snapActs", inPlace := ["slices.overlaps[berthage/api.Step]"], unfollowed := true, recurses := true, named := ["math/bits.deBruijn64tab"], apart := false, laid := [("math/bits.deBruijn64tab", laid_math_bits_deBruijn64tab)] }
def SnapActsSaid : Prop := snapActsRow.holds Tryz.pinned (OpenSpec.ofChange snapActsSpec)

/-- ITS FALSE NEIGHBOUR: 'it returns false'. Refute it at one input. -/
def snapActsWrong : ChangeSpec := { name := "snapActs", fn := fun _ => fun
  | [d1, d2] => { results := [.lit (.bool false)], args := [d1, d2] }
  | _ => none }
def SnapActsWrongFalsely : Prop := snapActsRow.holds Tryz.pinned (OpenSpec.ofChange snapActsWrong)

/-- 'berthagelaw40.SnapReads': WHATEVER THE INPUT: true; the input reads as it did. -/
def snapReadsSpec : ChangeSpec := { name := "snapReads", fn := fun _ => fun
  | [d] => { results := [.lit (.bool true)], args := [d] }
  | _ => none }
def snapReadsRow : OpenClaim := { program := "ytbmabiedmdlinaagreatdoor", sum := "e5c34d69a0370c1980716a610a97f75f5ffea3e010914733824866b272d05dc5", func := "berthage/berthagelaw40.SnapReads", spec := "snapReads", inPlace := ["slices.overlaps[berthage/api.Step]"], unfollowed := true, recurses := true, named := ["math/bits.deBruijn64tab"], apart := false, laid := [("math/bits.deBruijn64tab", laid_math_bits_deBruijn64tab)] }
def SnapReadsSaid : Prop := snapReadsRow.holds Tryz.pinned (OpenSpec.ofChange snapReadsSpec)

/-- ITS FALSE NEIGHBOUR: 'it returns false'. Refute it at one input. -/
def snapReadsWrong : ChangeSpec := { name := "snapReads", fn := fun _ => fun
  | [d] => { results := [.lit (.bool false)], args := [d] }
  | _ => none }
def SnapReadsWrongFalsely : Prop := snapReadsRow.holds Tryz.pinned (OpenSpec.ofChange snapReadsWrong)

/-- 'berthagelaw37.ForeComes': WHATEVER THE INPUT: true; the input reads as it did. -/
def foreComesSpec : ChangeSpec := { name := "foreComes", fn := fun _ => fun
  | [d1, d2, d3] => { results := [.lit (.bool true)], args := [d1, d2, d3] }
  | _ => none }
def foreComesRow : OpenClaim := { program := "ytbmabiedmdlinaagreatdoor", sum := "e5c34d69a0370c1980716a610a97f75f5ffea3e010914733824866b272d05dc5", func := "berthage/berthagelaw37.ForeComes", spec := "foreComes", inPlace := ["slices.overlaps[berthage/api.Step]"], unfollowed := true, recurses := true, named := ["math/bits.deBruijn64tab"], apart := false, laid := [("math/bits.deBruijn64tab", laid_math_bits_deBruijn64tab)] }
def ForeComesSaid : Prop := foreComesRow.holds Tryz.pinned (OpenSpec.ofChange foreComesSpec)

/-- ITS FALSE NEIGHBOUR: 'it returns false'. Refute it at one input. -/
def foreComesWrong : ChangeSpec := { name := "foreComes", fn := fun _ => fun
  | [d1, d2, d3] => { results := [.lit (.bool false)], args := [d1, d2, d3] }
  | _ => none }
def ForeComesWrongFalsely : Prop := foreComesRow.holds Tryz.pinned (OpenSpec.ofChange foreComesWrong)

/-- 'berthagelaw37.ForeWhat': WHATEVER THE INPUT: true; the input reads as it did. -/
def foreWhatSpec : ChangeSpec := { name := "foreWhat", fn := fun _ => fun
  | [d1, d2, d3, d4] => { results := [.lit (.bool true)], args := [d1, d2, d3, d4] }
  | _ => none }
def foreWhatRow : OpenClaim := { program := "ytbmabiedmdlinaagreatdoor", sum := "e5c34d69a0370c1980716a610a97f75f5ffea3e010914733824866b272d05dc5", func := "berthage/berthagelaw37.ForeWhat", spec := "foreWhat", inPlace := ["slices.overlaps[berthage/api.Step]"], unfollowed := true, recurses := true, named := ["math/bits.deBruijn64tab"], apart := false, laid := [("math/bits.deBruijn64tab", laid_math_bits_deBruijn64tab)] }
def ForeWhatSaid : Prop := foreWhatRow.holds Tryz.pinned (OpenSpec.ofChange foreWhatSpec)

/-- ITS FALSE NEIGHBOUR: 'it returns false'. Refute it at one input. -/
def foreWhatWrong : ChangeSpec := { name := "foreWhat", fn := fun _ => fun
  | [d1, d2, d3, d4] => { results := [.lit (.bool false)], args := [d1, d2, d3, d4] }
  | _ => none }
def ForeWhatWrongFalsely : Prop := foreWhatRow.holds Tryz.pinned (OpenSpec.ofChange foreWhatWrong)

/-- 'berthagelaw28.SimPlays': WHATEVER THE INPUT: true; the input reads as it did. -/
def simPlaysSpec : ChangeSpec := { name := "simPlays", fn := fun _ => fun
  | [d1, d2, d3, d4] => { results := [.lit (.bool true)], args := [d1, d2, d3, d4] }
  | _ => none }
def simPlaysRow : OpenClaim := { program := "ytbmabiedmdlinaagreatdoor", sum := "e5c34d69a0370c1980716a610a97f75f5ffea3e010914733824866b272d05dc5", func := "berthage/berthagelaw28.SimPlays", spec := "simPlays", inPlace := ["slices.overlaps[berthage/api.Step]"], unfollowed := true, recurses := true, named := ["math/bits.deBruijn64tab"], apart := false, laid := [("math/bits.deBruijn64tab", laid_math_bits_deBruijn64tab)] }
def SimPlaysSaid : Prop := simPlaysRow.holds Tryz.pinned (OpenSpec.ofChange simPlaysSpec)

/-- ITS FALSE NEIGHBOUR: 'it returns false'. Refute it at one input. -/
def simPlaysWrong : ChangeSpec := { name := "simPlays", fn := fun _ => fun
  | [d1, d2, d3, d4] => { results := [.lit (.bool false)], args := [d1, d2, d3, d4] }
  | _ => none }
def SimPlaysWrongFalsely : Prop := simPlaysRow.holds Tryz.pinned (OpenSpec.ofChange simPlaysWrong)

/-- 'berthagelaw28.SimRefuses': WHATEVER THE INPUT: true; the input reads as it did. -/
def simRefusesSpec : ChangeSpec := { name := "simRefuses", fn := fun _ => fun
  | [d1, d2, d3] => { results := [.lit (.bool true)], args := [d1, d2, d3] }
  | _ => none }
def simRefusesRow : OpenClaim := { program := "ytbmabiedmdlinaagreatdoor", sum := "e5c34d69a0370c1980716a610a97f75f5ffea3e010914733824866b272d05dc5", func := "berthage/berthagelaw28.SimRefuses", spec := "simRefuses", inPlace := ["slices.overlaps[berthage/api.Step]"], unfollowed := true, recurses := true, named := ["math/bits.deBruijn64tab"], apart := false, laid := [("math/bits.deBruijn64tab", laid_math_bits_deBruijn64tab)] }
def SimRefusesSaid : Prop := simRefusesRow.holds Tryz.pinned (OpenSpec.ofChange simRefusesSpec)

/-- ITS FALSE NEIGHBOUR: 'it returns false'. Refute it at one input. -/
def simRefusesWrong : ChangeSpec := { name := "simRefuses", fn := fun _ => fun
  | [d1, d2, d3] => { results := [.lit (.bool false)], args := [d1, d2, d3] }
  | _ => none }
def SimRefusesWrongFalsely : Prop := simRefusesRow.holds Tryz.pinned (OpenSpec.ofChange simRefusesWrong)

/- THE SECOND FORM. 'bulk': how many values and letters a reading holds, each counted each time it is reached (what is shared counts as often as it is met; a slice's spare places count too). A statement '..UptoSaid' is the law's where the arguments, and the package variables that the reading takes, are together of bulk at most 1048576: NARROWER than '..Said'. Prove '..Said' where nothing that the law and all that it calls make is longer than what came in: it says more and counts as full. Else prove '..UptoSaid'. A law counts once. -/
mutual
def uptoBulk {H : Type} : DataW H → Nat
  | .lit (.string bytes) => bytes.length + 1
  | .lit _ => 1
  | .nil => 1
  | .ptr d => uptoBulk d + 1
  | .slice elems spare => uptoBulkAll elems + uptoBulkAll spare + 1
  | .agg parts => uptoBulkAll parts + 1
  | .iface _ d => uptoBulk d + 1
  | .map entries => uptoBulkEntries entries + 1
  | .held _ => 1
def uptoBulkAll {H : Type} : List (DataW H) → Nat
  | [] => 0
  | d :: r => uptoBulk d + uptoBulkAll r
def uptoBulkEntries {H : Type} : List (Lit × DataW H) → Nat
  | [] => 0
  | x :: r => uptoBulkEntry x + uptoBulkEntries r
def uptoBulkEntry {H : Type} : Lit × DataW H → Nat
  | (.string bytes, d) => bytes.length + uptoBulk d + 1
  | (_, d) => uptoBulk d + 1
 end
def uptoSmall : (H : Type) → List (DataW H) → Bool := fun _ ds => decide (uptoBulkAll ds ≤ 1048576)
def OpenSpec.upto (s : _root_.Go.ChangeSpec) : _root_.Go.OpenSpec := { _root_.Go.OpenSpec.ofChange s with cond := some uptoSmall }

/-- 'berthagelaw17.OpAlone', WHERE WHAT IT READS IS OF BULK AT MOST 1048576: true; the input reads as it did. -/
def opAloneUptoRow : OpenClaim := { program := "ytbmabiedmdlinaagreatdoor", sum := "e5c34d69a0370c1980716a610a97f75f5ffea3e010914733824866b272d05dc5", func := "berthage/berthagelaw17.OpAlone", spec := "opAlone", inPlace := ["slices.overlaps[berthage/api.Step]"], unfollowed := true, recurses := true, named := ["math/bits.deBruijn64tab"], apart := false, laid := [("math/bits.deBruijn64tab", laid_math_bits_deBruijn64tab)], narrowed := true }
def OpAloneUptoSaid : Prop := opAloneUptoRow.holds Tryz.pinned (OpenSpec.upto opAloneSpec)

/-- 'berthagelaw18.FillNobody', WHERE WHAT IT READS IS OF BULK AT MOST 1048576: true; the input reads as it did. -/
def fillNobodyUptoRow : OpenClaim := { program := "ytbmabiedmdlinaagreatdoor", sum := "e5c34d69a0370c1980716a610a97f75f5ffea3e010914733824866b272d05dc5", func := "berthage/berthagelaw18.FillNobody", spec := "fillNobody", inPlace := ["slices.overlaps[berthage/api.Step]"], unfollowed := true, recurses := true, named := ["math/bits.deBruijn64tab"], apart := false, laid := [("math/bits.deBruijn64tab", laid_math_bits_deBruijn64tab)], narrowed := true }
def FillNobodyUptoSaid : Prop := fillNobodyUptoRow.holds Tryz.pinned (OpenSpec.upto fillNobodySpec)

/-- 'berthagelaw18.FillWaits', WHERE WHAT IT READS IS OF BULK AT MOST 1048576: true; the input reads as it did. -/
def fillWaitsUptoRow : OpenClaim := { program := "ytbmabiedmdlinaagreatdoor", sum := "e5c34d69a0370c1980716a610a97f75f5ffea3e010914733824866b272d05dc5", func := "berthage/berthagelaw18.FillWaits", spec := "fillWaits", inPlace := ["slices.overlaps[berthage/api.Step]"], unfollowed := true, recurses := true, named := ["math/bits.deBruijn64tab"], apart := false, laid := [("math/bits.deBruijn64tab", laid_math_bits_deBruijn64tab)], narrowed := true }
def FillWaitsUptoSaid : Prop := fillWaitsUptoRow.holds Tryz.pinned (OpenSpec.upto fillWaitsSpec)

/-- 'berthagelaw18.FillAlone', WHERE WHAT IT READS IS OF BULK AT MOST 1048576: true; the input reads as it did. -/
def fillAloneUptoRow : OpenClaim := { program := "ytbmabiedmdlinaagreatdoor", sum := "e5c34d69a0370c1980716a610a97f75f5ffea3e010914733824866b272d05dc5", func := "berthage/berthagelaw18.FillAlone", spec := "fillAlone", inPlace := ["slices.overlaps[berthage/api.Step]"], unfollowed := true, recurses := true, named := ["math/bits.deBruijn64tab"], apart := false, laid := [("math/bits.deBruijn64tab", laid_math_bits_deBruijn64tab)], narrowed := true }
def FillAloneUptoSaid : Prop := fillAloneUptoRow.holds Tryz.pinned (OpenSpec.upto fillAloneSpec)

/-- 'berthagelaw40.SnapNobody', WHERE WHAT IT READS IS OF BULK AT MOST 1048576: true; the input reads as it did. -/
def snapNobodyUptoRow : OpenClaim := { program := "ytbmabiedmdlinaagreatdoor", sum := "e5c34d69a0370c1980716a610a97f75f5ffea3e010914733824866b272d05dc5", func := "berthage/berthagelaw40.SnapNobody", spec := "snapNobody", inPlace := ["slices.overlaps[berthage/api.Step]"], unfollowed := true, recurses := true, named := ["math/bits.deBruijn64tab"], apart := false, laid := [("math/bits.deBruijn64tab", laid_math_bits_deBruijn64tab)], narrowed := true }
def SnapNobodyUptoSaid : Prop := snapNobodyUptoRow.holds Tryz.pinned (OpenSpec.upto snapNobodySpec)

/-- 'berthagelaw40.SnapTrims', WHERE WHAT IT READS IS OF BULK AT MOST 1048576: true; the input reads as it did. -/
def snapTrimsUptoRow : OpenClaim := { program := "ytbmabiedmdlinaagreatdoor", sum := "e5c34d69a0370c1980716a610a97f75f5ffea3e010914733824866b272d05dc5", func := "berthage/berthagelaw40.SnapTrims", spec := "snapTrims", inPlace := ["slices.overlaps[berthage/api.Step]"], unfollowed := true, recurses := true, named := ["math/bits.deBruijn64tab"], apart := false, laid := [("math/bits.deBruijn64tab", laid_math_bits_deBruijn64tab)], narrowed := true }
def SnapTrimsUptoSaid : Prop := snapTrimsUptoRow.holds Tryz.pinned (OpenSpec.upto snapTrimsSpec)

/-- 'berthagelaw40.SnapActs', WHERE WHAT IT READS IS OF BULK AT MOST 1048576: true; the input reads as it did. -/
def snapActsUptoRow : OpenClaim := { program := "ytbmabiedmdlinaagreatdoor", sum := "e5c34d69a0370c1980716a610a97f75f5ffea3e010914733824866b272d05dc5", func := "berthage/berthagelaw40.SnapActs", spec := "snapActs", inPlace := ["slices.overlaps[berthage/api.Step]"], unfollowed := true, recurses := true, named := ["math/bits.deBruijn64tab"], apart := false, laid := [("math/bits.deBruijn64tab", laid_math_bits_deBruijn64tab)], narrowed := true }
def SnapActsUptoSaid : Prop := snapActsUptoRow.holds Tryz.pinned (OpenSpec.upto snapActsSpec)

/-- 'berthagelaw40.SnapReads', WHERE WHAT IT READS IS OF BULK AT MOST 1048576: true; the input reads as it did. -/
def snapReadsUptoRow : OpenClaim := { program := "ytbmabiedmdlinaagreatdoor", sum := "e5c34d69a0370c1980716a610a97f75f5ffea3e010914733824866b272d05dc5", func := "berthage/berthagelaw40.SnapReads", spec := "snapReads", inPlace := ["slices.overlaps[berthage/api.Step]"], unfollowed := true, recurses := true, named := ["math/bits.deBruijn64tab"], apart := false, laid := [("math/bits.deBruijn64tab", laid_math_bits_deBruijn64tab)], narrowed := true }
def SnapReadsUptoSaid : Prop := snapReadsUptoRow.holds Tryz.pinned (OpenSpec.upto snapReadsSpec)

/-- 'berthagelaw37.ForeComes', WHERE WHAT IT READS IS OF BULK AT MOST 1048576: true; the input reads as it did. -/
def foreComesUptoRow : OpenClaim := { program := "ytbmabiedmdlinaagreatdoor", sum := "e5c34d69a0370c1980716a610a97f75f5ffea3e010914733824866b272d05dc5", func := "berthage/berthagelaw37.ForeComes", spec := "foreComes", inPlace := ["slices.overlaps[berthage/api.Step]"], unfollowed := true, recurses := true, named := ["math/bits.deBruijn64tab"], apart := false, laid := [("math/bits.deBruijn64tab", laid_math_bits_deBruijn64tab)], narrowed := true }
def ForeComesUptoSaid : Prop := foreComesUptoRow.holds Tryz.pinned (OpenSpec.upto foreComesSpec)

/-- 'berthagelaw37.ForeWhat', WHERE WHAT IT READS IS OF BULK AT MOST 1048576: true; the input reads as it did. -/
def foreWhatUptoRow : OpenClaim := { program := "ytbmabiedmdlinaagreatdoor", sum := "e5c34d69a0370c1980716a610a97f75f5ffea3e010914733824866b272d05dc5", func := "berthage/berthagelaw37.ForeWhat", spec := "foreWhat", inPlace := ["slices.overlaps[berthage/api.Step]"], unfollowed := true, recurses := true, named := ["math/bits.deBruijn64tab"], apart := false, laid := [("math/bits.deBruijn64tab", laid_math_bits_deBruijn64tab)], narrowed := true }
def ForeWhatUptoSaid : Prop := foreWhatUptoRow.holds Tryz.pinned (OpenSpec.upto foreWhatSpec)

/-- 'berthagelaw28.SimPlays', WHERE WHAT IT READS IS OF BULK AT MOST 1048576: true; the input reads as it did. -/
def simPlaysUptoRow : OpenClaim := { program := "ytbmabiedmdlinaagreatdoor", sum := "e5c34d69a0370c1980716a610a97f75f5ffea3e010914733824866b272d05dc5", func := "berthage/berthagelaw28.SimPlays", spec := "simPlays", inPlace := ["slices.overlaps[berthage/api.Step]"], unfollowed := true, recurses := true, named := ["math/bits.deBruijn64tab"], apart := false, laid := [("math/bits.deBruijn64tab", laid_math_bits_deBruijn64tab)], narrowed := true }
def SimPlaysUptoSaid : Prop := simPlaysUptoRow.holds Tryz.pinned (OpenSpec.upto simPlaysSpec)

/-- 'berthagelaw28.SimRefuses', WHERE WHAT IT READS IS OF BULK AT MOST 1048576: true; the input reads as it did. -/
def simRefusesUptoRow : OpenClaim := { program := "ytbmabiedmdlinaagreatdoor", sum := "e5c34d69a0370c1980716a610a97f75f5ffea3e010914733824866b272d05dc5", func := "berthage/berthagelaw28.SimRefuses", spec := "simRefuses", inPlace := ["slices.overlaps[berthage/api.Step]"], unfollowed := true, recurses := true, named := ["math/bits.deBruijn64tab"], apart := false, laid := [("math/bits.deBruijn64tab", laid_math_bits_deBruijn64tab)], narrowed := true }
def SimRefusesUptoSaid : Prop := simRefusesUptoRow.holds Tryz.pinned (OpenSpec.upto simRefusesSpec)

end Rows
end Go.Proofs.YtbmabiedmdlinaaGreatDoor
