import Derived.Test.YtnoinchifbckcaaGreatDoorRows
import Derived.Test.YtnoinchifbckcaaGreatDoorProg
import Derived.JoinedOf
import Derived.KernelRfl
set_option linter.all false
namespace Go.Proofs.YtnoinchifbckcaaGreatDoor.facts
open Go
theorem g26:((Rows.coreWantsRow.lifted==Tryz.prog.liftsFinal))=true:=by kernel_rfl
theorem g27:((Tryz.prog.make==some Rows.coreWantsRow.make))=true:=by kernel_rfl
end Go.Proofs.YtnoinchifbckcaaGreatDoor.facts
