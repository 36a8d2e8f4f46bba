import Derived.Test.YtnoinchifbckcaaGreatDoorRows
import Derived.Test.YtnoinchifbckcaaGreatDoorProg
import Derived.JoinedOf
import Derived.KernelRfl
set_option linter.all false
namespace Go.Proofs.YtnoinchifbckcaaGreatDoor.facts
open Go
theorem g25:(Tryz.prog.mayEnter)=true:=by kernel_rfl
end Go.Proofs.YtnoinchifbckcaaGreatDoor.facts
