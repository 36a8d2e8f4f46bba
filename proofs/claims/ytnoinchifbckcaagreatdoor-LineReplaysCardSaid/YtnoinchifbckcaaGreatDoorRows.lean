/-
  NARROWER THAN 'FOR EVERY INPUT', by the rows' own cells (each row's printed sentence says how): CorePlays: laid · CoreWants: laid · CoreTwins: laid · SeqPlays: laid · SeqPlans: laid · SeqRefuses: laid · SeqItems: laid · LineReplays: laid · LineAgrees: laid · SnapNobody: laid · TopAlone: laid · OpNobody: laid.
  DERIVED. THE GIVEN ROWS OF THIS SEAT. 12 by the template 'for every input the law returns true; each argument reads behind the call as it read before'; 0 by the template 'total and deterministic' (their statements: YtnoinchifbckcaaGreatDoorTotals.lean).
  GIVEN WITH THE SEED: the statements are not yours to turn. If you find one false, say at which input.
  Laid BY PROGRAM, IN A SANDBOX (cutbox-rows.mjs): the forced cells as the released guide's own fill.sh prints them over the translation e361c2b97357f3ea… (all of the seat's roots in one cut). By AI agents, Wed Nov 11 2026. No macro, syntax, notation, axiom, sorry.
-/
import Derived.Test.YtnoinchifbckcaaGreatDoorChecked
import GoSem.Claim
import GoSem.ClaimJoined
import GoSem.ClaimMapViews
import Derived.JoinedTies
import Derived.KernelRfl
namespace Go.Proofs.YtnoinchifbckcaaGreatDoor
/- THE CELL 'sum', in the pinned program and in every row, IS THE sha256 OF THE DUMP (.gsa) THAT YtnoinchifbckcaaGreatDoorProg.lean LOADS. Nothing in Lean hashes anything: it is a label: what it is worth is what the hold of that sum in a sandbox is worth. -/
noncomputable def Tryz.pinned : Pinned := { name := "ytnoinchifbckcaagreatdoor", sum := "e361c2b97357f3ea129f7b8be18ece960d8ae2724345ae7468f8189e2d810cd4", checked := Tryz.checked }
namespace Rows
def none {H : Type} : Left H := { results := [], args := [] }

/- WHAT THE LISTED PACKAGE-LEVEL VARIABLES READ AS WHEN THE CALL BEGINS. Each datum BY PROGRAM (the guide's laid-datum.mjs) off the statement by which the dump's own 'gosem.cut.vars' lays the variable. In a bare row this is a premise. The card (YtnoinchifbckcaaGreatDoorCards.lean) ties it to the program's text. -/
def laid_math_bits_deBruijn64tab {H : Type} : DataW H := .agg [.lit (.int .u8 0), .lit (.int .u8 1), .lit (.int .u8 56), .lit (.int .u8 2), .lit (.int .u8 57), .lit (.int .u8 49), .lit (.int .u8 28), .lit (.int .u8 3), .lit (.int .u8 61), .lit (.int .u8 58), .lit (.int .u8 42), .lit (.int .u8 50), .lit (.int .u8 38), .lit (.int .u8 29), .lit (.int .u8 17), .lit (.int .u8 4), .lit (.int .u8 62), .lit (.int .u8 47), .lit (.int .u8 59), .lit (.int .u8 36), .lit (.int .u8 45), .lit (.int .u8 43), .lit (.int .u8 51), .lit (.int .u8 22), .lit (.int .u8 53), .lit (.int .u8 39), .lit (.int .u8 33), .lit (.int .u8 30), .lit (.int .u8 24), .lit (.int .u8 18), .lit (.int .u8 12), .lit (.int .u8 5), .lit (.int .u8 63), .lit (.int .u8 55), .lit (.int .u8 48), .lit (.int .u8 27), .lit (.int .u8 60), .lit (.int .u8 41), .lit (.int .u8 37), .lit (.int .u8 16), .lit (.int .u8 46), .lit (.int .u8 35), .lit (.int .u8 44), .lit (.int .u8 21), .lit (.int .u8 52), .lit (.int .u8 32), .lit (.int .u8 23), .lit (.int .u8 11), .lit (.int .u8 54), .lit (.int .u8 26), .lit (.int .u8 40), .lit (.int .u8 15), .lit (.int .u8 34), .lit (.int .u8 20), .lit (.int .u8 31), .lit (.int .u8 10), .lit (.int .u8 25), .lit (.int .u8 14), .lit (.int .u8 19), .lit (.int .u8 9), .lit (.int .u8 13), .lit (.int .u8 8), .lit (.int .u8 7), .lit (.int .u8 6)]

/-- 'berthagelaw12.CorePlays': WHATEVER THE INPUT: true; the input reads as it did. -/
def corePlaysSpec : ChangeSpec := { name := "corePlays", fn := fun _ => fun
  | [d1, d2] => { results := [.lit (.bool true)], args := [d1, d2] }
  | _ => none }
def corePlaysRow : OpenClaim := { program := "ytnoinchifbckcaagreatdoor", sum := "e361c2b97357f3ea129f7b8be18ece960d8ae2724345ae7468f8189e2d810cd4", func := "berthage/berthagelaw12.CorePlays", spec := "corePlays", inPlace := ["slices.overlaps[berthage/api.Step]"], unfollowed := true, recurses := true, named := ["math/bits.deBruijn64tab"], apart := false, laid := [("math/bits.deBruijn64tab", laid_math_bits_deBruijn64tab)] }
def CorePlaysSaid : Prop := corePlaysRow.holds Tryz.pinned (OpenSpec.ofChange corePlaysSpec)

/-- ITS FALSE NEIGHBOUR: 'it returns false'. Refute it at one input. -/
def corePlaysWrong : ChangeSpec := { name := "corePlays", fn := fun _ => fun
  | [d1, d2] => { results := [.lit (.bool false)], args := [d1, d2] }
  | _ => none }
def CorePlaysWrongFalsely : Prop := corePlaysRow.holds Tryz.pinned (OpenSpec.ofChange corePlaysWrong)

/-- 'berthagelaw12.CoreWants': WHATEVER THE INPUT: true; the input reads as it did. -/
def coreWantsSpec : ChangeSpec := { name := "coreWants", fn := fun _ => fun
  | [d1, d2, d3] => { results := [.lit (.bool true)], args := [d1, d2, d3] }
  | _ => none }
def coreWantsRow : OpenClaim := { program := "ytnoinchifbckcaagreatdoor", sum := "e361c2b97357f3ea129f7b8be18ece960d8ae2724345ae7468f8189e2d810cd4", func := "berthage/berthagelaw12.CoreWants", spec := "coreWants", inPlace := ["slices.overlaps[berthage/api.Step]"], unfollowed := true, recurses := true, named := ["math/bits.deBruijn64tab"], apart := false, laid := [("math/bits.deBruijn64tab", laid_math_bits_deBruijn64tab)] }
def CoreWantsSaid : Prop := coreWantsRow.holds Tryz.pinned (OpenSpec.ofChange coreWantsSpec)

/-- ITS FALSE NEIGHBOUR: 'it returns false'. Refute it at one input. -/
def coreWantsWrong : ChangeSpec := { name := "coreWants", fn := fun _ => fun
  | [d1, d2, d3] => { results := [.lit (.bool false)], args := [d1, d2, d3] }
  | _ => none }
def CoreWantsWrongFalsely : Prop := coreWantsRow.holds Tryz.pinned (OpenSpec.ofChange coreWantsWrong)

/-- 'berthagelaw12.CoreTwins': WHATEVER THE INPUT: true; the input reads as it did. -/
def coreTwinsSpec : ChangeSpec := { name := "coreTwins", fn := fun _ => fun
  | [d1, d2, d3] => { results := [.lit (.bool true)], args := [d1, d2, d3] }
  | _ => none }
def coreTwinsRow : OpenClaim := { program := "ytnoinchifbckcaagreatdoor", sum := "e361c2b97357f3ea129f7b8be18ece960d8ae2724345ae7468f8189e2d810cd4", func := "berthage/berthagelaw12.CoreTwins", spec := "coreTwins", inPlace := ["slices.overlaps[berthage/api.Step]"], unfollowed := true, recurses := true, named := ["math/bits.deBruijn64tab"], apart := false, laid := [("math/bits.deBruijn64tab", laid_math_bits_deBruijn64tab)] }
def CoreTwinsSaid : Prop := coreTwinsRow.holds Tryz.pinned (OpenSpec.ofChange coreTwinsSpec)

/-- ITS FALSE NEIGHBOUR: 'it returns false'. Refute it at one input. -/
def coreTwinsWrong : ChangeSpec := { name := "coreTwins", fn := fun _ => fun
  | [d1, d2, d3] => { results := [.lit (.bool false)], args := [d1, d2, d3] }
  | _ => none }
def CoreTwinsWrongFalsely : Prop := coreTwinsRow.holds Tryz.pinned (OpenSpec.ofChange coreTwinsWrong)

/-- 'berthagelaw13.SeqPlays': WHATEVER THE INPUT: true; the input reads as it did. -/
def seqPlaysSpec : ChangeSpec := { name := "seqPlays", fn := fun _ => fun
  | [d1, d2] => { results := [.lit (.bool true)], args := [d1, d2] }
  | _ => none }
def seqPlaysRow : OpenClaim := { program := "ytnoinchifbckcaagreatdoor", sum := "e361c2b97357f3ea129f7b8be18ece960d8ae2724345ae7468f8189e2d810cd4", func := "berthage/berthagelaw13.SeqPlays", spec := "seqPlays", inPlace := ["slices.overlaps[berthage/api.Step]"], unfollowed := true, recurses := true, named := ["math/bits.deBruijn64tab"], apart := false, laid := [("math/bits.deBruijn64tab", laid_math_bits_deBruijn64tab)] }
def SeqPlaysSaid : Prop := seqPlaysRow.holds Tryz.pinned (OpenSpec.ofChange seqPlaysSpec)

/-- ITS FALSE NEIGHBOUR: 'it returns false'. Refute it at one input. -/
def seqPlaysWrong : ChangeSpec := { name := "seqPlays", fn := fun _ => fun
  | [d1, d2] => { results := [.lit (.bool false)], args := [d1, d2] }
  | _ => none }
def SeqPlaysWrongFalsely : Prop := seqPlaysRow.holds Tryz.pinned (OpenSpec.ofChange seqPlaysWrong)

/-- 'berthagelaw13.SeqPlans': WHATEVER THE INPUT: true; the input reads as it did. -/
def seqPlansSpec : ChangeSpec := { name := "seqPlans", fn := fun _ => fun
  | [d1, d2, d3] => { results := [.lit (.bool true)], args := [d1, d2, d3] }
  | _ => none }
def seqPlansRow : OpenClaim := { program := "ytnoinchifbckcaagreatdoor", sum := "e361c2b97357f3ea129f7b8be18ece960d8ae2724345ae7468f8189e2d810cd4", func := "berthage/berthagelaw13.SeqPlans", spec := "seqPlans", inPlace := ["slices.overlaps[berthage/api.Step]"], unfollowed := true, recurses := true, named := ["math/bits.deBruijn64tab"], apart := false, laid := [("math/bits.deBruijn64tab", laid_math_bits_deBruijn64tab)] }
def SeqPlansSaid : Prop := seqPlansRow.holds Tryz.pinned (OpenSpec.ofChange seqPlansSpec)

/-- ITS FALSE NEIGHBOUR: 'it returns false'. Refute it at one input. -/
def seqPlansWrong : ChangeSpec := { name := "seqPlans", fn := fun _ => fun
  | [d1, d2, d3] => { results := [.lit (.bool false)], args := [d1, d2, d3] }
  | _ => none }
def SeqPlansWrongFalsely : Prop := seqPlansRow.holds Tryz.pinned (OpenSpec.ofChange seqPlansWrong)

/-- 'berthagelaw13.SeqRefuses': WHATEVER THE INPUT: true; the input reads as it did. -/
def seqRefusesSpec : ChangeSpec := { name := "seqRefuses", fn := fun _ => fun
  | [d1, d2, d3] => { results := [.lit (.bool true)], args := [d1, d2, d3] }
  | _ => none }
def seqRefusesRow : OpenClaim := { program := "ytnoinchifbckcaagreatdoor", sum := "e361c2b97357f3ea129f7b8be18ece960d8ae2724345ae7468f8189e2d810cd4", func := "berthage/berthagelaw13.SeqRefuses", spec := "seqRefuses", inPlace := ["slices.overlaps[berthage/api.Step]"], unfollowed := true, recurses := true, named := ["math/bits.deBruijn64tab"], apart := false, laid := [("math/bits.deBruijn64tab", laid_math_bits_deBruijn64tab)] }
def SeqRefusesSaid : Prop := seqRefusesRow.holds Tryz.pinned (OpenSpec.ofChange seqRefusesSpec)

/-- ITS FALSE NEIGHBOUR: 'it returns false'. Refute it at one input. -/
def seqRefusesWrong : ChangeSpec := { name := "seqRefuses", fn := fun _ => fun
  | [d1, d2, d3] => { results := [.lit (.bool false)], args := [d1, d2, d3] }
  | _ => none }
def SeqRefusesWrongFalsely : Prop := seqRefusesRow.holds Tryz.pinned (OpenSpec.ofChange seqRefusesWrong)

/-- 'berthagelaw13.SeqItems': WHATEVER THE INPUT: true; the input reads as it did. -/
def seqItemsSpec : ChangeSpec := { name := "seqItems", fn := fun _ => fun
  | [d1, d2, d3] => { results := [.lit (.bool true)], args := [d1, d2, d3] }
  | _ => none }
def seqItemsRow : OpenClaim := { program := "ytnoinchifbckcaagreatdoor", sum := "e361c2b97357f3ea129f7b8be18ece960d8ae2724345ae7468f8189e2d810cd4", func := "berthage/berthagelaw13.SeqItems", spec := "seqItems", inPlace := ["slices.overlaps[berthage/api.Step]"], unfollowed := true, recurses := true, named := ["math/bits.deBruijn64tab"], apart := false, laid := [("math/bits.deBruijn64tab", laid_math_bits_deBruijn64tab)] }
def SeqItemsSaid : Prop := seqItemsRow.holds Tryz.pinned (OpenSpec.ofChange seqItemsSpec)

/-- ITS FALSE NEIGHBOUR: 'it returns false'. Refute it at one input. -/
def seqItemsWrong : ChangeSpec := { name := "seqItems", fn := fun _ => fun
  | [d1, d2, d3] => { results := [.lit (.bool false)], args := [d1, d2, d3] }
  | _ => none }
def SeqItemsWrongFalsely : Prop := seqItemsRow.holds Tryz.pinned (OpenSpec.ofChange seqItemsWrong)

/-- 'berthagelaw21.LineReplays': WHATEVER THE INPUT: true; the input reads as it did. -/
def lineReplaysSpec : ChangeSpec := { name := "lineReplays", fn := fun _ => fun
  | [d1, d2, d3] => { results := [.lit (.bool true)], args := [d1, d2, d3] }
  | _ => none }
def lineReplaysRow : OpenClaim := { program := "ytnoinchifbckcaagreatdoor", sum := "e361c2b97357f3ea129f7b8be18ece960d8ae2724345ae7468f8189e2d810cd4", func := "berthage/berthagelaw21.LineReplays", spec := "lineReplays", inPlace := ["slices.overlaps[berthage/api.Step]"], unfollowed := true, recurses := true, named := ["math/bits.deBruijn64tab"], apart := false, laid := [("math/bits.deBruijn64tab", laid_math_bits_deBruijn64tab)] }
def LineReplaysSaid : Prop := lineReplaysRow.holds Tryz.pinned (OpenSpec.ofChange lineReplaysSpec)

/-- ITS FALSE NEIGHBOUR: 'it returns false'. Refute it at one input. -/
def lineReplaysWrong : ChangeSpec := { name := "lineReplays", fn := fun _ => fun
  | [d1, d2, d3] => { results := [.lit (.bool false)], args := [d1, d2, d3] }
  | _ => none }
def LineReplaysWrongFalsely : Prop := lineReplaysRow.holds Tryz.pinned (OpenSpec.ofChange lineReplaysWrong)

/-- 'berthagelaw21.LineAgrees': WHATEVER THE INPUT: true; the input reads as it did. -/
def lineAgreesSpec : ChangeSpec := { name := "lineAgrees", fn := fun _ => fun
  | [d1, d2] => { results := [.lit (.bool true)], args := [d1, d2] }
  | _ => none }
def lineAgreesRow : OpenClaim := { program := "ytnoinchifbckcaagreatdoor", sum := "e361c2b97357f3ea129f7b8be18ece960d8ae2724345ae7468f8189e2d810cd4", func := "berthage/berthagelaw21.LineAgrees", spec := "lineAgrees", inPlace := ["slices.overlaps[berthage/api.Step]"], unfollowed := true, recurses := true, named := ["math/bits.deBruijn64tab"], apart := false, laid := [("math/bits.deBruijn64tab", laid_math_bits_deBruijn64tab)] }
def LineAgreesSaid : Prop := lineAgreesRow.holds Tryz.pinned (OpenSpec.ofChange lineAgreesSpec)

/-- ITS FALSE NEIGHBOUR: 'it returns false'. Refute it at one input. -/
def lineAgreesWrong : ChangeSpec := { name := "lineAgrees", fn := fun _ => fun
  | [d1, d2] => { results := [.lit (.bool false)], args := [d1, d2] }
  | _ => none }
def LineAgreesWrongFalsely : Prop := lineAgreesRow.holds Tryz.pinned (OpenSpec.ofChange lineAgreesWrong)

/-- 'berthagelaw40.SnapNobody': WHATEVER THE INPUT: true; the input reads as it did. -/
def snapNobodySpec : ChangeSpec := { name := "snapNobody", fn := fun _ => fun
  | [d] => { results := [.lit (.bool true)], args := [d] }
  | _ => none }
def snapNobodyRow : OpenClaim := { program := "ytnoinchifbckcaagreatdoor", sum := "e361c2b97357f3ea129f7b8be18ece960d8ae2724345ae7468f8189e2d810cd4", func := "berthage/berthagelaw40.SnapNobody", spec := "snapNobody", inPlace := ["slices.overlaps[berthage/api.Step]"], unfollowed := true, recurses := true, named := ["math/bits.deBruijn64tab"], apart := false, laid := [("math/bits.deBruijn64tab", laid_math_bits_deBruijn64tab)] }
def SnapNobodySaid : Prop := snapNobodyRow.holds Tryz.pinned (OpenSpec.ofChange snapNobodySpec)

/-- ITS FALSE NEIGHBOUR: 'it returns false'. Refute it at one input. -/
def snapNobodyWrong : ChangeSpec := { name := "snapNobody", fn := fun _ => fun
  | [d] => { results := [.lit (.bool false)], args := [d] }
  | _ => none }
def SnapNobodyWrongFalsely : Prop := snapNobodyRow.holds Tryz.pinned (OpenSpec.ofChange snapNobodyWrong)

/-- 'berthagetop.TopAlone': WHATEVER THE INPUT: true; the input reads as it did. -/
def topAloneSpec : ChangeSpec := { name := "topAlone", fn := fun _ => fun
  | [d1, d2] => { results := [.lit (.bool true)], args := [d1, d2] }
  | _ => none }
def topAloneRow : OpenClaim := { program := "ytnoinchifbckcaagreatdoor", sum := "e361c2b97357f3ea129f7b8be18ece960d8ae2724345ae7468f8189e2d810cd4", func := "berthage/berthagetop.TopAlone", spec := "topAlone", inPlace := ["slices.overlaps[berthage/api.Step]", "internal/reflectlite.TypeOf"], unfollowed := true, recurses := true, named := ["math/bits.deBruijn64tab"], apart := false, laid := [("math/bits.deBruijn64tab", laid_math_bits_deBruijn64tab)] }
def TopAloneSaid : Prop := topAloneRow.holds Tryz.pinned (OpenSpec.ofChange topAloneSpec)

/-- ITS FALSE NEIGHBOUR: 'it returns false'. Refute it at one input. -/
def topAloneWrong : ChangeSpec := { name := "topAlone", fn := fun _ => fun
  | [d1, d2] => { results := [.lit (.bool false)], args := [d1, d2] }
  | _ => none }
def TopAloneWrongFalsely : Prop := topAloneRow.holds Tryz.pinned (OpenSpec.ofChange topAloneWrong)

/-- 'berthagelaw17.OpNobody': WHATEVER THE INPUT: true; the input reads as it did. -/
def opNobodySpec : ChangeSpec := { name := "opNobody", fn := fun _ => fun
  | [d] => { results := [.lit (.bool true)], args := [d] }
  | _ => none }
def opNobodyRow : OpenClaim := { program := "ytnoinchifbckcaagreatdoor", sum := "e361c2b97357f3ea129f7b8be18ece960d8ae2724345ae7468f8189e2d810cd4", func := "berthage/berthagelaw17.OpNobody", spec := "opNobody", inPlace := ["slices.overlaps[berthage/api.Step]"], unfollowed := true, recurses := true, named := ["math/bits.deBruijn64tab"], apart := false, laid := [("math/bits.deBruijn64tab", laid_math_bits_deBruijn64tab)] }
def OpNobodySaid : Prop := opNobodyRow.holds Tryz.pinned (OpenSpec.ofChange opNobodySpec)

/-- ITS FALSE NEIGHBOUR: 'it returns false'. Refute it at one input. -/
def opNobodyWrong : ChangeSpec := { name := "opNobody", fn := fun _ => fun
  | [d] => { results := [.lit (.bool false)], args := [d] }
  | _ => none }
def OpNobodyWrongFalsely : Prop := opNobodyRow.holds Tryz.pinned (OpenSpec.ofChange opNobodyWrong)

/- THE SECOND FORM. 'bulk': how many values and letters a reading holds, each counted each time it is reached (what is shared counts as often as it is met; a slice's spare places count too). A statement '..UptoSaid' is the law's where the arguments, and the package variables that the reading takes, are together of bulk at most 1048576: NARROWER than '..Said'. Prove '..Said' where nothing that the law and all that it calls make is longer than what came in: it says more and counts as full. Else prove '..UptoSaid'. A law counts once. -/
mutual
def uptoBulk {H : Type} : DataW H → Nat
  | .lit (.string bytes) => bytes.length + 1
  | .lit _ => 1
  | .nil => 1
  | .ptr d => uptoBulk d + 1
  | .slice elems spare => uptoBulkAll elems + uptoBulkAll spare + 1
  | .agg parts => uptoBulkAll parts + 1
  | .iface _ d => uptoBulk d + 1
  | .map entries => uptoBulkEntries entries + 1
  | .held _ => 1
def uptoBulkAll {H : Type} : List (DataW H) → Nat
  | [] => 0
  | d :: r => uptoBulk d + uptoBulkAll r
def uptoBulkEntries {H : Type} : List (Lit × DataW H) → Nat
  | [] => 0
  | x :: r => uptoBulkEntry x + uptoBulkEntries r
def uptoBulkEntry {H : Type} : Lit × DataW H → Nat
  | (.string bytes, d) => bytes.length + uptoBulk d + 1
  | (_, d) => uptoBulk d + 1
 end
def uptoSmall : (H : Type) → List (DataW H) → Bool := fun _ ds => decide (uptoBulkAll ds ≤ 1048576)
def OpenSpec.upto (s : _root_.Go.ChangeSpec) : _root_.Go.OpenSpec := { _root_.Go.OpenSpec.ofChange s with cond := some uptoSmall }

/-- 'berthagelaw12.CorePlays', WHERE WHAT IT READS IS OF BULK AT MOST 1048576: true; the input reads as it did. -/
def corePlaysUptoRow : OpenClaim := { program := "ytnoinchifbckcaagreatdoor", sum := "e361c2b97357f3ea129f7b8be18ece960d8ae2724345ae7468f8189e2d810cd4", func := "berthage/berthagelaw12.CorePlays", spec := "corePlays", inPlace := ["slices.overlaps[berthage/api.Step]"], unfollowed := true, recurses := true, named := ["math/bits.deBruijn64tab"], apart := false, laid := [("math/bits.deBruijn64tab", laid_math_bits_deBruijn64tab)], narrowed := true }
def CorePlaysUptoSaid : Prop := corePlaysUptoRow.holds Tryz.pinned (OpenSpec.upto corePlaysSpec)

/-- 'berthagelaw12.CoreWants', WHERE WHAT IT READS IS OF BULK AT MOST 1048576: true; the input reads as it did. -/
def coreWantsUptoRow : OpenClaim := { program := "ytnoinchifbckcaagreatdoor", sum := "e361c2b97357f3ea129f7b8be18ece960d8ae2724345ae7468f8189e2d810cd4", func := "berthage/berthagelaw12.CoreWants", spec := "coreWants", inPlace := ["slices.overlaps[berthage/api.Step]"], unfollowed := true, recurses := true, named := ["math/bits.deBruijn64tab"], apart := false, laid := [("math/bits.deBruijn64tab", laid_math_bits_deBruijn64tab)], narrowed := true }
def CoreWantsUptoSaid : Prop := coreWantsUptoRow.holds Tryz.pinned (OpenSpec.upto coreWantsSpec)

/-- 'berthagelaw12.CoreTwins', WHERE WHAT IT READS IS OF BULK AT MOST 1048576: true; the input reads as it did. -/
def coreTwinsUptoRow : OpenClaim := { program := "ytnoinchifbckcaagreatdoor", sum := "e361c2b97357f3ea129f7b8be18ece960d8ae2724345ae7468f8189e2d810cd4", func := "berthage/berthagelaw12.CoreTwins", spec := "coreTwins", inPlace := ["slices.overlaps[berthage/api.Step]"], unfollowed := true, recurses := true, named := ["math/bits.deBruijn64tab"], apart := false, laid := [("math/bits.deBruijn64tab", laid_math_bits_deBruijn64tab)], narrowed := true }
def CoreTwinsUptoSaid : Prop := coreTwinsUptoRow.holds Tryz.pinned (OpenSpec.upto coreTwinsSpec)

/-- 'berthagelaw13.SeqPlays', WHERE WHAT IT READS IS OF BULK AT MOST 1048576: true; the input reads as it did. -/
def seqPlaysUptoRow : OpenClaim := { program := "ytnoinchifbckcaagreatdoor", sum := "e361c2b97357f3ea129f7b8be18ece960d8ae2724345ae7468f8189e2d810cd4", func := "berthage/berthagelaw13.SeqPlays", spec := "seqPlays", inPlace := ["slices.overlaps[berthage/api.Step]"], unfollowed := true, recurses := true, named := ["math/bits.deBruijn64tab"], apart := false, laid := [("math/bits.deBruijn64tab", laid_math_bits_deBruijn64tab)], narrowed := true }
def SeqPlaysUptoSaid : Prop := seqPlaysUptoRow.holds Tryz.pinned (OpenSpec.upto seqPlaysSpec)

/-- 'berthagelaw13.SeqPlans', WHERE WHAT IT READS IS OF BULK AT MOST 1048576: true; the input reads as it did. -/
def seqPlansUptoRow : OpenClaim := { program := "ytnoinchifbckcaagreatdoor", sum := "e361c2b97357f3ea129f7b8be18ece960d8ae2724345ae7468f8189e2d810cd4", func := "berthage/berthagelaw13.SeqPlans", spec := "seqPlans", inPlace := ["slices.overlaps[berthage/api.Step]"], unfollowed := true, recurses := true, named := ["math/bits.deBruijn64tab"], apart := false, laid := [("math/bits.deBruijn64tab", laid_math_bits_deBruijn64tab)], narrowed := true }
def SeqPlansUptoSaid : Prop := seqPlansUptoRow.holds Tryz.pinned (OpenSpec.upto seqPlansSpec)

/-- 'berthagelaw13.SeqRefuses', WHERE WHAT IT READS IS OF BULK AT MOST 1048576: true; the input reads as it did. -/
def seqRefusesUptoRow : OpenClaim := { program := "ytnoinchifbckcaagreatdoor", sum := "e361c2b97357f3ea129f7b8be18ece960d8ae2724345ae7468f8189e2d810cd4", func := "berthage/berthagelaw13.SeqRefuses", spec := "seqRefuses", inPlace := ["slices.overlaps[berthage/api.Step]"], unfollowed := true, recurses := true, named := ["math/bits.deBruijn64tab"], apart := false, laid := [("math/bits.deBruijn64tab", laid_math_bits_deBruijn64tab)], narrowed := true }
def SeqRefusesUptoSaid : Prop := seqRefusesUptoRow.holds Tryz.pinned (OpenSpec.upto seqRefusesSpec)

/-- 'berthagelaw13.SeqItems', WHERE WHAT IT READS IS OF BULK AT MOST 1048576: true; the input reads as it did. -/
def seqItemsUptoRow : OpenClaim := { program := "ytnoinchifbckcaagreatdoor", sum := "e361c2b97357f3ea129f7b8be18ece960d8ae2724345ae7468f8189e2d810cd4", func := "berthage/berthagelaw13.SeqItems", spec := "seqItems", inPlace := ["slices.overlaps[berthage/api.Step]"], unfollowed := true, recurses := true, named := ["math/bits.deBruijn64tab"], apart := false, laid := [("math/bits.deBruijn64tab", laid_math_bits_deBruijn64tab)], narrowed := true }
def SeqItemsUptoSaid : Prop := seqItemsUptoRow.holds Tryz.pinned (OpenSpec.upto seqItemsSpec)

/-- 'berthagelaw21.LineReplays', WHERE WHAT IT READS IS OF BULK AT MOST 1048576: true; the input reads as it did. -/
def lineReplaysUptoRow : OpenClaim := { program := "ytnoinchifbckcaagreatdoor", sum := "e361c2b97357f3ea129f7b8be18ece960d8ae2724345ae7468f8189e2d810cd4", func := "berthage/berthagelaw21.LineReplays", spec := "lineReplays", inPlace := ["slices.overlaps[berthage/api.Step]"], unfollowed := true, recurses := true, named := ["math/bits.deBruijn64tab"], apart := false, laid := [("math/bits.deBruijn64tab", laid_math_bits_deBruijn64tab)], narrowed := true }
def LineReplaysUptoSaid : Prop := lineReplaysUptoRow.holds Tryz.pinned (OpenSpec.upto lineReplaysSpec)

/-- 'berthagelaw21.LineAgrees', WHERE WHAT IT READS IS OF BULK AT MOST 1048576: true; the input reads as it did. -/
def lineAgreesUptoRow : OpenClaim := { program := "ytnoinchifbckcaagreatdoor", sum := "e361c2b97357f3ea129f7b8be18ece960d8ae2724345ae7468f8189e2d810cd4", func := "berthage/berthagelaw21.LineAgrees", spec := "lineAgrees", inPlace := ["slices.overlaps[berthage/api.Step]"], unfollowed := true, recurses := true, named := ["math/bits.deBruijn64tab"], apart := false, laid := [("math/bits.deBruijn64tab", laid_math_bits_deBruijn64tab)], narrowed := true }
def LineAgreesUptoSaid : Prop := lineAgreesUptoRow.holds Tryz.pinned (OpenSpec.upto lineAgreesSpec)

/-- 'berthagelaw40.SnapNobody', WHERE WHAT IT READS IS OF BULK AT MOST 1048576: true; the input reads as it did. -/
def snapNobodyUptoRow : OpenClaim := { program := "ytnoinchifbckcaagreatdoor", sum := "e361c2b97357f3ea129f7b8be18ece960d8ae2724345ae7468f8189e2d810cd4", func := "berthage/berthagelaw40.SnapNobody", spec := "snapNobody", inPlace := ["slices.overlaps[berthage/api.Step]"], unfollowed := true, recurses := true, named := ["math/bits.deBruijn64tab"], apart := false, laid := [("math/bits.deBruijn64tab", laid_math_bits_deBruijn64tab)], narrowed := true }
def SnapNobodyUptoSaid : Prop := snapNobodyUptoRow.holds Tryz.pinned (OpenSpec.upto snapNobodySpec)

/-- 'berthagetop.TopAlone', WHERE WHAT IT READS IS OF BULK AT MOST 1048576: true; the input reads as it did. -/
def topAloneUptoRow : OpenClaim := { program := "ytnoinchifbckcaagreatdoor", sum := "e361c2b97357f3ea129f7b8be18ece960d8ae2724345ae7468f8189e2d810cd4", func := "berthage/berthagetop.TopAlone", spec := "topAlone", inPlace := ["slices.overlaps[berthage/api.Step]", "internal/reflectlite.TypeOf"], unfollowed := true, recurses := true, named := ["math/bits.deBruijn64tab"], apart := false, laid := [("math/bits.deBruijn64tab", laid_math_bits_deBruijn64tab)], narrowed := true }
def TopAloneUptoSaid : Prop := topAloneUptoRow.holds Tryz.pinned (OpenSpec.upto topAloneSpec)

/-- 'berthagelaw17.OpNobody', WHERE WHAT IT READS IS OF BULK AT MOST 1048576: true; the input reads as it did. -/
def opNobodyUptoRow : OpenClaim := { program := "ytnoinchifbckcaagreatdoor", sum := "e361c2b97357f3ea129f7b8be18ece960d8ae2724345ae7468f8189e2d810cd4", func := "berthage/berthagelaw17.OpNobody", spec := "opNobody", inPlace := ["slices.overlaps[berthage/api.Step]"], unfollowed := true, recurses := true, named := ["math/bits.deBruijn64tab"], apart := false, laid := [("math/bits.deBruijn64tab", laid_math_bits_deBruijn64tab)], narrowed := true }
def OpNobodyUptoSaid : Prop := opNobodyUptoRow.holds Tryz.pinned (OpenSpec.upto opNobodySpec)

end Rows
end Go.Proofs.YtnoinchifbckcaaGreatDoor
