/-
  NARROWER THAN 'FOR EVERY INPUT', by the rows' own cells (each row's printed sentence says how): PassLowers: laid · OpLocks: laid · OpWaits: laid · PassQuiet: laid · PassRuns: laid · PassOpen: laid · OpAlone: laid · ForeStarts: laid · CoreSound: laid · AuditSound: laid · AuditTaken: laid · AuditSame: laid.
  DERIVED. THE GIVEN ROWS OF THIS SEAT. 12 by the template 'for every input the law returns true; each argument reads behind the call as it read before'; 0 by the template 'total and deterministic' (their statements: YtidfnpddheobdaaGreatDoorTotals.lean).
  GIVEN WITH THE SEED: the statements are not yours to turn. If you find one false, say at which input.
  Laid BY PROGRAM, IN A SANDBOX (cutbox-rows.mjs): the forced cells as the released guide's own fill.sh prints them over the translation f8fd52c571d59505… (all of the seat's roots in one cut). By AI agents, Wed Nov 11 2026. No macro, syntax, notation, axiom, sorry.
-/
import Derived.Test.YtidfnpddheobdaaGreatDoorChecked
import GoSem.Claim
import GoSem.ClaimJoined
import GoSem.ClaimMapViews
import Derived.JoinedTies
import Derived.KernelRfl
namespace Go.Proofs.YtidfnpddheobdaaGreatDoor
/- THE CELL 'sum', in the pinned program and in every row, IS THE sha256 OF THE DUMP (.gsa) THAT YtidfnpddheobdaaGreatDoorProg.lean LOADS. Nothing in Lean hashes anything: it is a label: what it is worth is what the hold of that sum in a sandbox is worth. -/
noncomputable def Tryz.pinned : Pinned := { name := "ytidfnpddheobdaagreatdoor", sum := "f8fd52c571d595054d71b9f871fb8482e93cf21c3f0f5bf5ede39b1cadb2c0c8", checked := Tryz.checked }
namespace Rows
def none {H : Type} : Left H := { results := [], args := [] }

/- WHAT THE LISTED PACKAGE-LEVEL VARIABLES READ AS WHEN THE CALL BEGINS. Each datum BY PROGRAM (the guide's laid-datum.mjs) off the statement by which the dump's own 'gosem.cut.vars' lays the variable. In a bare row this is a premise. The card (YtidfnpddheobdaaGreatDoorCards.lean) ties it to the program's text. -/
def laid_math_bits_deBruijn64tab {H : Type} : DataW H := .agg [.lit (.int .u8 0), .lit (.int .u8 1), .lit (.int .u8 56), .lit (.int .u8 2), .lit (.int .u8 57), .lit (.int .u8 49), .lit (.int .u8 28), .lit (.int .u8 3), .lit (.int .u8 61), .lit (.int .u8 58), .lit (.int .u8 42), .lit (.int .u8 50), .lit (.int .u8 38), .lit (.int .u8 29), .lit (.int .u8 17), .lit (.int .u8 4), .lit (.int .u8 62), .lit (.int .u8 47), .lit (.int .u8 59), .lit (.int .u8 36), .lit (.int .u8 45), .lit (.int .u8 43), .lit (.int .u8 51), .lit (.int .u8 22), .lit (.int .u8 53), .lit (.int .u8 39), .lit (.int .u8 33), .lit (.int .u8 30), .lit (.int .u8 24), .lit (.int .u8 18), .lit (.int .u8 12), .lit (.int .u8 5), .lit (.int .u8 63), .lit (.int .u8 55), .lit (.int .u8 48), .lit (.int .u8 27), .lit (.int .u8 60), .lit (.int .u8 41), .lit (.int .u8 37), .lit (.int .u8 16), .lit (.int .u8 46), .lit (.int .u8 35), .lit (.int .u8 44), .lit (.int .u8 21), .lit (.int .u8 52), .lit (.int .u8 32), .lit (.int .u8 23), .lit (.int .u8 11), .lit (.int .u8 54), .lit (.int .u8 26), .lit (.int .u8 40), .lit (.int .u8 15), .lit (.int .u8 34), .lit (.int .u8 20), .lit (.int .u8 31), .lit (.int .u8 10), .lit (.int .u8 25), .lit (.int .u8 14), .lit (.int .u8 19), .lit (.int .u8 9), .lit (.int .u8 13), .lit (.int .u8 8), .lit (.int .u8 7), .lit (.int .u8 6)]

/-- 'berthagelaw15.PassLowers': WHATEVER THE INPUT: true; the input reads as it did. -/
def passLowersSpec : ChangeSpec := { name := "passLowers", fn := fun _ => fun
  | [d1, d2, d3] => { results := [.lit (.bool true)], args := [d1, d2, d3] }
  | _ => none }
def passLowersRow : OpenClaim := { program := "ytidfnpddheobdaagreatdoor", sum := "f8fd52c571d595054d71b9f871fb8482e93cf21c3f0f5bf5ede39b1cadb2c0c8", func := "berthage/berthagelaw15.PassLowers", spec := "passLowers", inPlace := ["slices.overlaps[berthage/api.Step]"], unfollowed := true, recurses := true, named := ["math/bits.deBruijn64tab"], apart := false, laid := [("math/bits.deBruijn64tab", laid_math_bits_deBruijn64tab)] }
def PassLowersSaid : Prop := passLowersRow.holds Tryz.pinned (OpenSpec.ofChange passLowersSpec)

/-- ITS FALSE NEIGHBOUR: 'it returns false'. Refute it at one input. -/
def passLowersWrong : ChangeSpec := { name := "passLowers", fn := fun _ => fun
  | [d1, d2, d3] => { results := [.lit (.bool false)], args := [d1, d2, d3] }
  | _ => none }
def PassLowersWrongFalsely : Prop := passLowersRow.holds Tryz.pinned (OpenSpec.ofChange passLowersWrong)

/-- 'berthagelaw17.OpLocks': WHATEVER THE INPUT: true; the input reads as it did. -/
def opLocksSpec : ChangeSpec := { name := "opLocks", fn := fun _ => fun
  | [d1, d2, d3] => { results := [.lit (.bool true)], args := [d1, d2, d3] }
  | _ => none }
def opLocksRow : OpenClaim := { program := "ytidfnpddheobdaagreatdoor", sum := "f8fd52c571d595054d71b9f871fb8482e93cf21c3f0f5bf5ede39b1cadb2c0c8", func := "berthage/berthagelaw17.OpLocks", spec := "opLocks", inPlace := ["slices.overlaps[berthage/api.Step]"], unfollowed := true, recurses := true, named := ["math/bits.deBruijn64tab"], apart := false, laid := [("math/bits.deBruijn64tab", laid_math_bits_deBruijn64tab)] }
def OpLocksSaid : Prop := opLocksRow.holds Tryz.pinned (OpenSpec.ofChange opLocksSpec)

/-- ITS FALSE NEIGHBOUR: 'it returns false'. Refute it at one input. -/
def opLocksWrong : ChangeSpec := { name := "opLocks", fn := fun _ => fun
  | [d1, d2, d3] => { results := [.lit (.bool false)], args := [d1, d2, d3] }
  | _ => none }
def OpLocksWrongFalsely : Prop := opLocksRow.holds Tryz.pinned (OpenSpec.ofChange opLocksWrong)

/-- 'berthagelaw17.OpWaits': WHATEVER THE INPUT: true; the input reads as it did. -/
def opWaitsSpec : ChangeSpec := { name := "opWaits", fn := fun _ => fun
  | [d1, d2, d3, d4] => { results := [.lit (.bool true)], args := [d1, d2, d3, d4] }
  | _ => none }
def opWaitsRow : OpenClaim := { program := "ytidfnpddheobdaagreatdoor", sum := "f8fd52c571d595054d71b9f871fb8482e93cf21c3f0f5bf5ede39b1cadb2c0c8", func := "berthage/berthagelaw17.OpWaits", spec := "opWaits", inPlace := ["slices.overlaps[berthage/api.Step]"], unfollowed := true, recurses := true, named := ["math/bits.deBruijn64tab"], apart := false, laid := [("math/bits.deBruijn64tab", laid_math_bits_deBruijn64tab)] }
def OpWaitsSaid : Prop := opWaitsRow.holds Tryz.pinned (OpenSpec.ofChange opWaitsSpec)

/-- ITS FALSE NEIGHBOUR: 'it returns false'. Refute it at one input. -/
def opWaitsWrong : ChangeSpec := { name := "opWaits", fn := fun _ => fun
  | [d1, d2, d3, d4] => { results := [.lit (.bool false)], args := [d1, d2, d3, d4] }
  | _ => none }
def OpWaitsWrongFalsely : Prop := opWaitsRow.holds Tryz.pinned (OpenSpec.ofChange opWaitsWrong)

/-- 'berthagelaw15.PassQuiet': WHATEVER THE INPUT: true; the input reads as it did. -/
def passQuietSpec : ChangeSpec := { name := "passQuiet", fn := fun _ => fun
  | [d1, d2] => { results := [.lit (.bool true)], args := [d1, d2] }
  | _ => none }
def passQuietRow : OpenClaim := { program := "ytidfnpddheobdaagreatdoor", sum := "f8fd52c571d595054d71b9f871fb8482e93cf21c3f0f5bf5ede39b1cadb2c0c8", func := "berthage/berthagelaw15.PassQuiet", spec := "passQuiet", inPlace := ["slices.overlaps[berthage/api.Step]"], unfollowed := true, recurses := true, named := ["math/bits.deBruijn64tab"], apart := false, laid := [("math/bits.deBruijn64tab", laid_math_bits_deBruijn64tab)] }
def PassQuietSaid : Prop := passQuietRow.holds Tryz.pinned (OpenSpec.ofChange passQuietSpec)

/-- ITS FALSE NEIGHBOUR: 'it returns false'. Refute it at one input. -/
def passQuietWrong : ChangeSpec := { name := "passQuiet", fn := fun _ => fun
  | [d1, d2] => { results := [.lit (.bool false)], args := [d1, d2] }
  | _ => none }
def PassQuietWrongFalsely : Prop := passQuietRow.holds Tryz.pinned (OpenSpec.ofChange passQuietWrong)

/-- 'berthagelaw15.PassRuns': WHATEVER THE INPUT: true; the input reads as it did. -/
def passRunsSpec : ChangeSpec := { name := "passRuns", fn := fun _ => fun
  | [d1, d2, d3] => { results := [.lit (.bool true)], args := [d1, d2, d3] }
  | _ => none }
def passRunsRow : OpenClaim := { program := "ytidfnpddheobdaagreatdoor", sum := "f8fd52c571d595054d71b9f871fb8482e93cf21c3f0f5bf5ede39b1cadb2c0c8", func := "berthage/berthagelaw15.PassRuns", spec := "passRuns", inPlace := ["slices.overlaps[berthage/api.Step]"], unfollowed := true, recurses := true, named := ["math/bits.deBruijn64tab"], apart := false, laid := [("math/bits.deBruijn64tab", laid_math_bits_deBruijn64tab)] }
def PassRunsSaid : Prop := passRunsRow.holds Tryz.pinned (OpenSpec.ofChange passRunsSpec)

/-- ITS FALSE NEIGHBOUR: 'it returns false'. Refute it at one input. -/
def passRunsWrong : ChangeSpec := { name := "passRuns", fn := fun _ => fun
  | [d1, d2, d3] => { results := [.lit (.bool false)], args := [d1, d2, d3] }
  | _ => none }
def PassRunsWrongFalsely : Prop := passRunsRow.holds Tryz.pinned (OpenSpec.ofChange passRunsWrong)

/-- 'berthagelaw15.PassOpen': WHATEVER THE INPUT: true; the input reads as it did. -/
def passOpenSpec : ChangeSpec := { name := "passOpen", fn := fun _ => fun
  | [d1, d2, d3] => { results := [.lit (.bool true)], args := [d1, d2, d3] }
  | _ => none }
def passOpenRow : OpenClaim := { program := "ytidfnpddheobdaagreatdoor", sum := "f8fd52c571d595054d71b9f871fb8482e93cf21c3f0f5bf5ede39b1cadb2c0c8", func := "berthage/berthagelaw15.PassOpen", spec := "passOpen", inPlace := ["slices.overlaps[berthage/api.Step]"], unfollowed := true, recurses := true, named := ["math/bits.deBruijn64tab"], apart := false, laid := [("math/bits.deBruijn64tab", laid_math_bits_deBruijn64tab)] }
def PassOpenSaid : Prop := passOpenRow.holds Tryz.pinned (OpenSpec.ofChange passOpenSpec)

/-- ITS FALSE NEIGHBOUR: 'it returns false'. Refute it at one input. -/
def passOpenWrong : ChangeSpec := { name := "passOpen", fn := fun _ => fun
  | [d1, d2, d3] => { results := [.lit (.bool false)], args := [d1, d2, d3] }
  | _ => none }
def PassOpenWrongFalsely : Prop := passOpenRow.holds Tryz.pinned (OpenSpec.ofChange passOpenWrong)

/-- 'berthagelaw17.OpAlone': WHATEVER THE INPUT: true; the input reads as it did. -/
def opAloneSpec : ChangeSpec := { name := "opAlone", fn := fun _ => fun
  | [d1, d2, d3] => { results := [.lit (.bool true)], args := [d1, d2, d3] }
  | _ => none }
def opAloneRow : OpenClaim := { program := "ytidfnpddheobdaagreatdoor", sum := "f8fd52c571d595054d71b9f871fb8482e93cf21c3f0f5bf5ede39b1cadb2c0c8", func := "berthage/berthagelaw17.OpAlone", spec := "opAlone", inPlace := ["slices.overlaps[berthage/api.Step]"], unfollowed := true, recurses := true, named := ["math/bits.deBruijn64tab"], apart := false, laid := [("math/bits.deBruijn64tab", laid_math_bits_deBruijn64tab)] }
def OpAloneSaid : Prop := opAloneRow.holds Tryz.pinned (OpenSpec.ofChange opAloneSpec)

/-- ITS FALSE NEIGHBOUR: 'it returns false'. Refute it at one input. -/
def opAloneWrong : ChangeSpec := { name := "opAlone", fn := fun _ => fun
  | [d1, d2, d3] => { results := [.lit (.bool false)], args := [d1, d2, d3] }
  | _ => none }
def OpAloneWrongFalsely : Prop := opAloneRow.holds Tryz.pinned (OpenSpec.ofChange opAloneWrong)

/-- 'berthagelaw37.ForeStarts': WHATEVER THE INPUT: true; the input reads as it did. -/
def foreStartsSpec : ChangeSpec := { name := "foreStarts", fn := fun _ => fun
  | [d1, d2] => { results := [.lit (.bool true)], args := [d1, d2] }
  | _ => none }
def foreStartsRow : OpenClaim := { program := "ytidfnpddheobdaagreatdoor", sum := "f8fd52c571d595054d71b9f871fb8482e93cf21c3f0f5bf5ede39b1cadb2c0c8", func := "berthage/berthagelaw37.ForeStarts", spec := "foreStarts", inPlace := ["slices.overlaps[berthage/api.Step]"], unfollowed := true, recurses := true, named := ["math/bits.deBruijn64tab"], apart := false, laid := [("math/bits.deBruijn64tab", laid_math_bits_deBruijn64tab)] }
def ForeStartsSaid : Prop := foreStartsRow.holds Tryz.pinned (OpenSpec.ofChange foreStartsSpec)

/-- ITS FALSE NEIGHBOUR: 'it returns false'. Refute it at one input. -/
def foreStartsWrong : ChangeSpec := { name := "foreStarts", fn := fun _ => fun
  | [d1, d2] => { results := [.lit (.bool false)], args := [d1, d2] }
  | _ => none }
def ForeStartsWrongFalsely : Prop := foreStartsRow.holds Tryz.pinned (OpenSpec.ofChange foreStartsWrong)

/-- 'berthagelaw12.CoreSound': WHATEVER THE INPUT: true; the input reads as it did. -/
def coreSoundSpec : ChangeSpec := { name := "coreSound", fn := fun _ => fun
  | [d1, d2] => { results := [.lit (.bool true)], args := [d1, d2] }
  | _ => none }
def coreSoundRow : OpenClaim := { program := "ytidfnpddheobdaagreatdoor", sum := "f8fd52c571d595054d71b9f871fb8482e93cf21c3f0f5bf5ede39b1cadb2c0c8", func := "berthage/berthagelaw12.CoreSound", spec := "coreSound", inPlace := ["slices.overlaps[berthage/api.Step]"], unfollowed := true, recurses := true, named := ["math/bits.deBruijn64tab"], apart := false, laid := [("math/bits.deBruijn64tab", laid_math_bits_deBruijn64tab)] }
def CoreSoundSaid : Prop := coreSoundRow.holds Tryz.pinned (OpenSpec.ofChange coreSoundSpec)

/-- ITS FALSE NEIGHBOUR: 'it returns false'. Refute it at one input. -/
def coreSoundWrong : ChangeSpec := { name := "coreSound", fn := fun _ => fun
  | [d1, d2] => { results := [.lit (.bool false)], args := [d1, d2] }
  | _ => none }
def CoreSoundWrongFalsely : Prop := coreSoundRow.holds Tryz.pinned (OpenSpec.ofChange coreSoundWrong)

/-- 'berthagelaw22.AuditSound': WHATEVER THE INPUT: true; the input reads as it did. -/
def auditSoundSpec : ChangeSpec := { name := "auditSound", fn := fun _ => fun
  | [d1, d2, d3] => { results := [.lit (.bool true)], args := [d1, d2, d3] }
  | _ => none }
def auditSoundRow : OpenClaim := { program := "ytidfnpddheobdaagreatdoor", sum := "f8fd52c571d595054d71b9f871fb8482e93cf21c3f0f5bf5ede39b1cadb2c0c8", func := "berthage/berthagelaw22.AuditSound", spec := "auditSound", inPlace := ["slices.overlaps[berthage/api.Step]"], unfollowed := true, recurses := true, named := ["math/bits.deBruijn64tab"], apart := false, laid := [("math/bits.deBruijn64tab", laid_math_bits_deBruijn64tab)] }
def AuditSoundSaid : Prop := auditSoundRow.holds Tryz.pinned (OpenSpec.ofChange auditSoundSpec)

/-- ITS FALSE NEIGHBOUR: 'it returns false'. Refute it at one input. -/
def auditSoundWrong : ChangeSpec := { name := "auditSound", fn := fun _ => fun
  | [d1, d2, d3] => { results := [.lit (.bool false)], args := [d1, d2, d3] }
  | _ => none }
def AuditSoundWrongFalsely : Prop := auditSoundRow.holds Tryz.pinned (OpenSpec.ofChange auditSoundWrong)

/-- 'berthagelaw22.AuditTaken': WHATEVER THE INPUT: true; the input reads as it did. -/
def auditTakenSpec : ChangeSpec := { name := "auditTaken", fn := fun _ => fun
  | [d1, d2, d3] => { results := [.lit (.bool true)], args := [d1, d2, d3] }
  | _ => none }
def auditTakenRow : OpenClaim := { program := "ytidfnpddheobdaagreatdoor", sum := "f8fd52c571d595054d71b9f871fb8482e93cf21c3f0f5bf5ede39b1cadb2c0c8", func := "berthage/berthagelaw22.AuditTaken", spec := "auditTaken", inPlace := ["slices.overlaps[berthage/api.Step]"], unfollowed := true, recurses := true, named := ["math/bits.deBruijn64tab"], apart := false, laid := [("math/bits.deBruijn64tab", laid_math_bits_deBruijn64tab)] }
def AuditTakenSaid : Prop := auditTakenRow.holds Tryz.pinned (OpenSpec.ofChange auditTakenSpec)

/-- ITS FALSE NEIGHBOUR: 'it returns false'. Refute it at one input. -/
def auditTakenWrong : ChangeSpec := { name := "auditTaken", fn := fun _ => fun
  | [d1, d2, d3] => { results := [.lit (.bool false)], args := [d1, d2, d3] }
  | _ => none }
def AuditTakenWrongFalsely : Prop := auditTakenRow.holds Tryz.pinned (OpenSpec.ofChange auditTakenWrong)

/-- 'berthagelaw22.AuditSame': WHATEVER THE INPUT: true; the input reads as it did. -/
def auditSameSpec : ChangeSpec := { name := "auditSame", fn := fun _ => fun
  | [d1, d2, d3] => { results := [.lit (.bool true)], args := [d1, d2, d3] }
  | _ => none }
def auditSameRow : OpenClaim := { program := "ytidfnpddheobdaagreatdoor", sum := "f8fd52c571d595054d71b9f871fb8482e93cf21c3f0f5bf5ede39b1cadb2c0c8", func := "berthage/berthagelaw22.AuditSame", spec := "auditSame", inPlace := ["slices.overlaps[berthage/api.Step]"], unfollowed := true, recurses := true, named := ["math/bits.deBruijn64tab"], apart := false, laid := [("math/bits.deBruijn64tab", laid_math_bits_deBruijn64tab)] }
def AuditSameSaid : Prop := auditSameRow.holds Tryz.pinned (OpenSpec.ofChange auditSameSpec)

/-- ITS FALSE NEIGHBOUR: 'it returns false'. Refute it at one input. -/
def auditSameWrong : ChangeSpec := { name := "auditSame", fn := fun _ => fun
  | [d1, d2, d3] => { results := [.lit (.bool false)], args := [d1, d2, d3] }
  | _ => none }
def AuditSameWrongFalsely : Prop := auditSameRow.holds Tryz.pinned (OpenSpec.ofChange auditSameWrong)

/- THE SECOND FORM. 'bulk': how many values and letters a reading holds, each counted each time it is reached (what is shared counts as often as it is met; a slice's spare places count too). A statement '..UptoSaid' is the law's where the arguments, and the package variables that the reading takes, are together of bulk at most 1048576: NARROWER than '..Said'. Prove '..Said' where nothing that the law and all that it calls make is longer than what came in: it says more and counts as full. Else prove '..UptoSaid'. A law counts once. -/
mutual
def uptoBulk {H : Type} : DataW H → Nat
  | .lit (.string bytes) => bytes.length + 1
  | .lit _ => 1
  | .nil => 1
  | .ptr d => uptoBulk d + 1
  | .slice elems spare => uptoBulkAll elems + uptoBulkAll spare + 1
  | .agg parts => uptoBulkAll parts + 1
  | .iface _ d => uptoBulk d + 1
  | .map entries => uptoBulkEntries entries + 1
  | .held _ => 1
def uptoBulkAll {H : Type} : List (DataW H) → Nat
  | [] => 0
  | d :: r => uptoBulk d + uptoBulkAll r
def uptoBulkEntries {H : Type} : List (Lit × DataW H) → Nat
  | [] => 0
  | x :: r => uptoBulkEntry x + uptoBulkEntries r
def uptoBulkEntry {H : Type} : Lit × DataW H → Nat
  | (.string bytes, d) => bytes.length + uptoBulk d + 1
  | (_, d) => uptoBulk d + 1
 end
def uptoSmall : (H : Type) → List (DataW H) → Bool := fun _ ds => decide (uptoBulkAll ds ≤ 1048576)
def OpenSpec.upto (s : _root_.Go.ChangeSpec) : _root_.Go.OpenSpec := { _root_.Go.OpenSpec.ofChange s with cond := some uptoSmall }

/-- 'berthagelaw15.PassLowers', WHERE WHAT IT READS IS OF BULK AT MOST 1048576: true; the input reads as it did. -/
def passLowersUptoRow : OpenClaim := { program := "ytidfnpddheobdaagreatdoor", sum := "f8fd52c571d595054d71b9f871fb8482e93cf21c3f0f5bf5ede39b1cadb2c0c8", func := "berthage/berthagelaw15.PassLowers", spec := "passLowers", inPlace := ["slices.overlaps[berthage/api.Step]"], unfollowed := true, recurses := true, named := ["math/bits.deBruijn64tab"], apart := false, laid := [("math/bits.deBruijn64tab", laid_math_bits_deBruijn64tab)], narrowed := true }
def PassLowersUptoSaid : Prop := passLowersUptoRow.holds Tryz.pinned (OpenSpec.upto passLowersSpec)

/-- 'berthagelaw17.OpLocks', WHERE WHAT IT READS IS OF BULK AT MOST 1048576: true; the input reads as it did. -/
def opLocksUptoRow : OpenClaim := { program := "ytidfnpddheobdaagreatdoor", sum := "f8fd52c571d595054d71b9f871fb8482e93cf21c3f0f5bf5ede39b1cadb2c0c8", func := "berthage/berthagelaw17.OpLocks", spec := "opLocks", inPlace := ["slices.overlaps[berthage/api.Step]"], unfollowed := true, recurses := true, named := ["math/bits.deBruijn64tab"], apart := false, laid := [("math/bits.deBruijn64tab", laid_math_bits_deBruijn64tab)], narrowed := true }
def OpLocksUptoSaid : Prop := opLocksUptoRow.holds Tryz.pinned (OpenSpec.upto opLocksSpec)

/-- 'berthagelaw17.OpWaits', WHERE WHAT IT READS IS OF BULK AT MOST 1048576: true; the input reads as it did. -/
def opWaitsUptoRow : OpenClaim := { program := "ytidfnpddheobdaagreatdoor", sum := "f8fd52c571d595054d71b9f871fb8482e93cf21c3f0f5bf5ede39b1cadb2c0c8", func := "berthage/berthagelaw17.OpWaits", spec := "opWaits", inPlace := ["slices.overlaps[berthage/api.Step]"], unfollowed := true, recurses := true, named := ["math/bits.deBruijn64tab"], apart := false, laid := [("math/bits.deBruijn64tab", laid_math_bits_deBruijn64tab)], narrowed := true }
def OpWaitsUptoSaid : Prop := opWaitsUptoRow.holds Tryz.pinned (OpenSpec.upto opWaitsSpec)

/-- 'berthagelaw15.PassQuiet', WHERE WHAT IT READS IS OF BULK AT MOST 1048576: true; the input reads as it did. -/
def passQuietUptoRow : OpenClaim := { program := "ytidfnpddheobdaagreatdoor", sum := "f8fd52c571d595054d71b9f871fb8482e93cf21c3f0f5bf5ede39b1cadb2c0c8", func := "berthage/berthagelaw15.PassQuiet", spec := "passQuiet", inPlace := ["slices.overlaps[berthage/api.Step]"], unfollowed := true, recurses := true, named := ["math/bits.deBruijn64tab"], apart := false, laid := [("math/bits.deBruijn64tab", laid_math_bits_deBruijn64tab)], narrowed := true }
def PassQuietUptoSaid : Prop := passQuietUptoRow.holds Tryz.pinned (OpenSpec.upto passQuietSpec)

/-- 'berthagelaw15.PassRuns', WHERE WHAT IT READS IS OF BULK AT MOST 1048576: true; the input reads as it did. -/
def passRunsUptoRow : OpenClaim := { program := "ytidfnpddheobdaagreatdoor", sum := "f8fd52c571d595054d71b9f871fb8482e93cf21c3f0f5bf5ede39b1cadb2c0c8", func := "berthage/berthagelaw15.PassRuns", spec := "passRuns", inPlace := ["slices.overlaps[berthage/api.Step]"], unfollowed := true, recurses := true, named := ["math/bits.deBruijn64tab"], apart := false, laid := [("math/bits.deBruijn64tab", laid_math_bits_deBruijn64tab)], narrowed := true }
def PassRunsUptoSaid : Prop := passRunsUptoRow.holds Tryz.pinned (OpenSpec.upto passRunsSpec)

/-- 'berthagelaw15.PassOpen', WHERE WHAT IT READS IS OF BULK AT MOST 1048576: true; the input reads as it did. -/
def passOpenUptoRow : OpenClaim := { program := "ytidfnpddheobdaagreatdoor", sum := "f8fd52c571d595054d71b9f871fb8482e93cf21c3f0f5bf5ede39b1cadb2c0c8", func := "berthage/berthagelaw15.PassOpen", spec := "passOpen", inPlace := ["slices.overlaps[berthage/api.Step]"], unfollowed := true, recurses := true, named := ["math/bits.deBruijn64tab"], apart := false, laid := [("math/bits.deBruijn64tab", laid_math_bits_deBruijn64tab)], narrowed := true }
def PassOpenUptoSaid : Prop := passOpenUptoRow.holds Tryz.pinned (OpenSpec.upto passOpenSpec)

/-- 'berthagelaw17.OpAlone', WHERE WHAT IT READS IS OF BULK AT MOST 1048576: true; the input reads as it did. -/
def opAloneUptoRow : OpenClaim := { program := "ytidfnpddheobdaagreatdoor", sum := "f8fd52c571d595054d71b9f871fb8482e93cf21c3f0f5bf5ede39b1cadb2c0c8", func := "berthage/berthagelaw17.OpAlone", spec := "opAlone", inPlace := ["slices.overlaps[berthage/api.Step]"], unfollowed := true, recurses := true, named := ["math/bits.deBruijn64tab"], apart := false, laid := [("math/bits.deBruijn64tab", laid_math_bits_deBruijn64tab)], narrowed := true }
def OpAloneUptoSaid : Prop := opAloneUptoRow.holds Tryz.pinned (OpenSpec.upto opAloneSpec)

/-- 'berthagelaw37.ForeStarts', WHERE WHAT IT READS IS OF BULK AT MOST 1048576: true; the input reads as it did. -/
def foreStartsUptoRow : OpenClaim := { program := "ytidfnpddheobdaagreatdoor", sum := "f8fd52c571d595054d71b9f871fb8482e93cf21c3f0f5bf5ede39b1cadb2c0c8", func := "berthage/berthagelaw37.ForeStarts", spec := "foreStarts", inPlace := ["slices.overlaps[berthage/api.Step]"], unfollowed := true, recurses := true, named := ["math/bits.deBruijn64tab"], apart := false, laid := [("math/bits.deBruijn64tab", laid_math_bits_deBruijn64tab)], narrowed := true }
def ForeStartsUptoSaid : Prop := foreStartsUptoRow.holds Tryz.pinned (OpenSpec.upto foreStartsSpec)

/-- 'berthagelaw12.CoreSound', WHERE WHAT IT READS IS OF BULK AT MOST 1048576: true; the input reads as it did. -/
def coreSoundUptoRow : OpenClaim := { program := "ytidfnpddheobdaagreatdoor", sum := "f8fd52c571d595054d71b9f871fb8482e93cf21c3f0f5bf5ede39b1cadb2c0c8", func := "berthage/berthagelaw12.CoreSound", spec := "coreSound", inPlace := ["slices.overlaps[berthage/api.Step]"], unfollowed := true, recurses := true, named := ["math/bits.deBruijn64tab"], apart := false, laid := [("math/bits.deBruijn64tab", laid_math_bits_deBruijn64tab)], narrowed := true }
def CoreSoundUptoSaid : Prop := coreSoundUptoRow.holds Tryz.pinned (OpenSpec.upto coreSoundSpec)

/-- 'berthagelaw22.AuditSound', WHERE WHAT IT READS IS OF BULK AT MOST 1048576: true; the input reads as it did. -/
def auditSoundUptoRow : OpenClaim := { program := "ytidfnpddheobdaagreatdoor", sum := "f8fd52c571d595054d71b9f871fb8482e93cf21c3f0f5bf5ede39b1cadb2c0c8", func := "berthage/berthagelaw22.AuditSound", spec := "auditSound", inPlace := ["slices.overlaps[berthage/api.Step]"], unfollowed := true, recurses := true, named := ["math/bits.deBruijn64tab"], apart := false, laid := [("math/bits.deBruijn64tab", laid_math_bits_deBruijn64tab)], narrowed := true }
def AuditSoundUptoSaid : Prop := auditSoundUptoRow.holds Tryz.pinned (OpenSpec.upto auditSoundSpec)

/-- 'berthagelaw22.AuditTaken', WHERE WHAT IT READS IS OF BULK AT MOST 1048576: true; the input reads as it did. -/
def auditTakenUptoRow : OpenClaim := { program := "ytidfnpddheobdaagreatdoor", sum := "f8fd52c571d595054d71b9f871fb8482e93cf21c3f0f5bf5ede39b1cadb2c0c8", func := "berthage/berthagelaw22.AuditTaken", spec := "auditTaken", inPlace := ["slices.overlaps[berthage/api.Step]"], unfollowed := true, recurses := true, named := ["math/bits.deBruijn64tab"], apart := false, laid := [("math/bits.deBruijn64tab", laid_math_bits_deBruijn64tab)], narrowed := true }
def AuditTakenUptoSaid : Prop := auditTakenUptoRow.holds Tryz.pinned (OpenSpec.upto auditTakenSpec)

/-- 'berthagelaw22.AuditSame', WHERE WHAT IT READS IS OF BULK AT MOST 1048576: true; the input reads as it did. -/
def auditSameUptoRow : OpenClaim := { program := "ytidfnpddheobdaagreatdoor", sum := "f8fd52c571d595054d71b9f871fb8482e93cf21c3f0f5bf5ede39b1cadb2c0c8", func := "berthage/berthagelaw22.AuditSame", spec := "auditSame", inPlace := ["slices.overlaps[berthage/api.Step]"], unfollowed := true, recurses := true, named := ["math/bits.deBruijn64tab"], apart := false, laid := [("math/bits.deBruijn64tab", laid_math_bits_deBruijn64tab)], narrowed := true }
def AuditSameUptoSaid : Prop := auditSameUptoRow.holds Tryz.pinned (OpenSpec.upto auditSameSpec)

end Rows
end Go.Proofs.YtidfnpddheobdaaGreatDoor
