import Derived.Test.YtidfnpddheobdaaGreatDoorRows
import Derived.Test.YtidfnpddheobdaaGreatDoorProg
import Derived.JoinedOf
import Derived.KernelRfl
set_option linter.all false
namespace Go.Proofs.YtidfnpddheobdaaGreatDoor.facts
open Go
theorem g26:((Rows.passLowersRow.lifted==Tryz.prog.liftsFinal))=true:=by kernel_rfl
theorem g27:((Tryz.prog.make==some Rows.passLowersRow.make))=true:=by kernel_rfl
end Go.Proofs.YtidfnpddheobdaaGreatDoor.facts
