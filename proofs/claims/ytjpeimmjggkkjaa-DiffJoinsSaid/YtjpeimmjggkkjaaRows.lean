/-
  No cell of these rows narrows 'for every input' (looked for: loops, veiled, ifaces, maps, wideKeys, modest, calm, conditions, laid).
  DERIVED. THE GIVEN ROWS OF THIS SEAT. 4 by the template 'for every input the law returns true; each argument reads behind the call as it read before'; 0 by the template 'total and deterministic' (their statements: YtjpeimmjggkkjaaTotals.lean).
  GIVEN WITH THE SEED: the statements are not yours to turn. If you find one false, say at which input.
  Laid BY PROGRAM, IN A SANDBOX (cutbox-rows.mjs): the forced cells as the released guide's own fill.sh prints them over the translation c61c2fd403206a0e… (all of the seat's roots in one cut). By AI agents, Wed Nov 11 2026. No macro, syntax, notation, axiom, sorry.
-/
import Derived.Test.YtjpeimmjggkkjaaChecked
import GoSem.Claim
import GoSem.ClaimJoined
import GoSem.ClaimMapViews
import Derived.JoinedTies
import Derived.KernelRfl
namespace Go.Proofs.Ytjpeimmjggkkjaa
/- THE CELL 'sum', in the pinned program and in every row, IS THE sha256 OF THE DUMP (.gsa) THAT YtjpeimmjggkkjaaProg.lean LOADS. Nothing in Lean hashes anything: it is a label: what it is worth is what the hold of that sum in a sandbox is worth. -/
noncomputable def Try.pinned : Pinned := { name := "ytjpeimmjggkkjaa", sum := "c61c2fd403206a0e746ef0efee3bb1697ac043c8d1aef56b14a74116a743f8bb", checked := Try.checked }
namespace Rows
def none {H : Type} : Left H := { results := [], args := [] }

/-- 'berthagelaw41.DiffMays': WHATEVER THE INPUT: true; the input reads as it did. -/
def diffMaysSpec : ChangeSpec := { name := "diffMays", fn := fun _ => fun
  | [d1, d2] => { results := [.lit (.bool true)], args := [d1, d2] }
  | _ => none }
def diffMaysRow : OpenClaim := { program := "ytjpeimmjggkkjaa", sum := "c61c2fd403206a0e746ef0efee3bb1697ac043c8d1aef56b14a74116a743f8bb", func := "berthage/berthagelaw41.DiffMays", spec := "diffMays", unfollowed := true, recurses := true, apart := false }
def DiffMaysSaid : Prop := diffMaysRow.holds Try.pinned (OpenSpec.ofChange diffMaysSpec)

/-- ITS FALSE NEIGHBOUR: 'it returns false'. Refute it at one input. -/
def diffMaysWrong : ChangeSpec := { name := "diffMays", fn := fun _ => fun
  | [d1, d2] => { results := [.lit (.bool false)], args := [d1, d2] }
  | _ => none }
def DiffMaysWrongFalsely : Prop := diffMaysRow.holds Try.pinned (OpenSpec.ofChange diffMaysWrong)

/-- 'berthagelaw41.DiffChanges': WHATEVER THE INPUT: true; the input reads as it did. -/
def diffChangesSpec : ChangeSpec := { name := "diffChanges", fn := fun _ => fun
  | [d1, d2] => { results := [.lit (.bool true)], args := [d1, d2] }
  | _ => none }
def diffChangesRow : OpenClaim := { program := "ytjpeimmjggkkjaa", sum := "c61c2fd403206a0e746ef0efee3bb1697ac043c8d1aef56b14a74116a743f8bb", func := "berthage/berthagelaw41.DiffChanges", spec := "diffChanges", unfollowed := true, recurses := true, apart := false }
def DiffChangesSaid : Prop := diffChangesRow.holds Try.pinned (OpenSpec.ofChange diffChangesSpec)

/-- ITS FALSE NEIGHBOUR: 'it returns false'. Refute it at one input. -/
def diffChangesWrong : ChangeSpec := { name := "diffChanges", fn := fun _ => fun
  | [d1, d2] => { results := [.lit (.bool false)], args := [d1, d2] }
  | _ => none }
def DiffChangesWrongFalsely : Prop := diffChangesRow.holds Try.pinned (OpenSpec.ofChange diffChangesWrong)

/-- 'berthagelaw41.DiffJoins': WHATEVER THE INPUT: true; the input reads as it did. -/
def diffJoinsSpec : ChangeSpec := { name := "diffJoins", fn := fun _ => fun
  | [d1, d2] => { results := [.lit (.bool true)], args := [d1, d2] }
  | _ => none }
def diffJoinsRow : OpenClaim := { program := "ytjpeimmjggkkjaa", sum := "c61c2fd403206a0e746ef0efee3bb1697ac043c8d1aef56b14a74116a743f8bb", func := "berthage/berthagelaw41.DiffJoins", spec := "diffJoins", unfollowed := true, recurses := true, apart := false }
def DiffJoinsSaid : Prop := diffJoinsRow.holds Try.pinned (OpenSpec.ofChange diffJoinsSpec)

/-- ITS FALSE NEIGHBOUR: 'it returns false'. Refute it at one input. -/
def diffJoinsWrong : ChangeSpec := { name := "diffJoins", fn := fun _ => fun
  | [d1, d2] => { results := [.lit (.bool false)], args := [d1, d2] }
  | _ => none }
def DiffJoinsWrongFalsely : Prop := diffJoinsRow.holds Try.pinned (OpenSpec.ofChange diffJoinsWrong)

/-- 'berthagelaw41.DiffPlans': WHATEVER THE INPUT: true; the input reads as it did. -/
def diffPlansSpec : ChangeSpec := { name := "diffPlans", fn := fun _ => fun
  | [d1, d2] => { results := [.lit (.bool true)], args := [d1, d2] }
  | _ => none }
def diffPlansRow : OpenClaim := { program := "ytjpeimmjggkkjaa", sum := "c61c2fd403206a0e746ef0efee3bb1697ac043c8d1aef56b14a74116a743f8bb", func := "berthage/berthagelaw41.DiffPlans", spec := "diffPlans", unfollowed := true, recurses := true, apart := false }
def DiffPlansSaid : Prop := diffPlansRow.holds Try.pinned (OpenSpec.ofChange diffPlansSpec)

/-- ITS FALSE NEIGHBOUR: 'it returns false'. Refute it at one input. -/
def diffPlansWrong : ChangeSpec := { name := "diffPlans", fn := fun _ => fun
  | [d1, d2] => { results := [.lit (.bool false)], args := [d1, d2] }
  | _ => none }
def DiffPlansWrongFalsely : Prop := diffPlansRow.holds Try.pinned (OpenSpec.ofChange diffPlansWrong)

/- THE SECOND FORM. 'bulk': how many values and letters a reading holds, each counted each time it is reached (what is shared counts as often as it is met; a slice's spare places count too). A statement '..UptoSaid' is the law's where the arguments, and the package variables that the reading takes, are together of bulk at most 1048576: NARROWER than '..Said'. Prove '..Said' where nothing that the law and all that it calls make is longer than what came in: it says more and counts as full. Else prove '..UptoSaid'. A law counts once. -/
mutual
def uptoBulk {H : Type} : DataW H → Nat
  | .lit (.string bytes) => bytes.length + 1
  | .lit _ => 1
  | .nil => 1
  | .ptr d => uptoBulk d + 1
  | .slice elems spare => uptoBulkAll elems + uptoBulkAll spare + 1
  | .agg parts => uptoBulkAll parts + 1
  | .iface _ d => uptoBulk d + 1
  | .map entries => uptoBulkEntries entries + 1
  | .held _ => 1
def uptoBulkAll {H : Type} : List (DataW H) → Nat
  | [] => 0
  | d :: r => uptoBulk d + uptoBulkAll r
def uptoBulkEntries {H : Type} : List (Lit × DataW H) → Nat
  | [] => 0
  | x :: r => uptoBulkEntry x + uptoBulkEntries r
def uptoBulkEntry {H : Type} : Lit × DataW H → Nat
  | (.string bytes, d) => bytes.length + uptoBulk d + 1
  | (_, d) => uptoBulk d + 1
 end
def uptoSmall : (H : Type) → List (DataW H) → Bool := fun _ ds => decide (uptoBulkAll ds ≤ 1048576)
def OpenSpec.upto (s : _root_.Go.ChangeSpec) : _root_.Go.OpenSpec := { _root_.Go.OpenSpec.ofChange s with cond := some uptoSmall }

/-- 'berthagelaw41.DiffMays', WHERE WHAT IT READS IS OF BULK AT MOST 1048576: true; the input reads as it did. -/
def diffMaysUptoRow : OpenClaim := { program := "ytjpeimmjggkkjaa", sum := "c61c2fd403206a0e746ef0efee3bb1697ac043c8d1aef56b14a74116a743f8bb", func := "berthage/berthagelaw41.DiffMays", spec := "diffMays", unfollowed := true, recurses := true, apart := false, narrowed := true }
def DiffMaysUptoSaid : Prop := diffMaysUptoRow.holds Try.pinned (OpenSpec.upto diffMaysSpec)

/-- 'berthagelaw41.DiffChanges', WHERE WHAT IT READS IS OF BULK AT MOST 1048576: true; the input reads as it did. -/
def diffChangesUptoRow : OpenClaim := { program := "ytjpeimmjggkkjaa", sum := "c61c2fd403206a0e746ef0efee3bb1697ac043c8d1aef56b14a74116a743f8bb", func := "berthage/berthagelaw41.DiffChanges", spec := "diffChanges", unfollowed := true, recurses := true, apart := false, narrowed := true }
def DiffChangesUptoSaid : Prop := diffChangesUptoRow.holds Try.pinned (OpenSpec.upto diffChangesSpec)

/-- 'berthagelaw41.DiffJoins', WHERE WHAT IT READS IS OF BULK AT MOST 1048576: true; the input reads as it did. -/
def diffJoinsUptoRow : OpenClaim := { program := "ytjpeimmjggkkjaa", sum := "c61c2fd403206a0e746ef0efee3bb1697ac043c8d1aef56b14a74116a743f8bb", func := "berthage/berthagelaw41.DiffJoins", spec := "diffJoins", unfollowed := true, recurses := true, apart := false, narrowed := true }
def DiffJoinsUptoSaid : Prop := diffJoinsUptoRow.holds Try.pinned (OpenSpec.upto diffJoinsSpec)

/-- 'berthagelaw41.DiffPlans', WHERE WHAT IT READS IS OF BULK AT MOST 1048576: true; the input reads as it did. -/
def diffPlansUptoRow : OpenClaim := { program := "ytjpeimmjggkkjaa", sum := "c61c2fd403206a0e746ef0efee3bb1697ac043c8d1aef56b14a74116a743f8bb", func := "berthage/berthagelaw41.DiffPlans", spec := "diffPlans", unfollowed := true, recurses := true, apart := false, narrowed := true }
def DiffPlansUptoSaid : Prop := diffPlansUptoRow.holds Try.pinned (OpenSpec.upto diffPlansSpec)

end Rows
end Go.Proofs.Ytjpeimmjggkkjaa
