import Derived.Test.YtidfnpddheobdaaGreatDoorRows
import Derived.Test.YtidfnpddheobdaaGreatDoorProg
import Derived.JoinedOf
import Derived.KernelRfl
set_option linter.all false
namespace Go.Proofs.YtidfnpddheobdaaGreatDoor.facts
open Go
theorem g25:(Tryz.prog.mayEnter)=true:=by kernel_rfl
end Go.Proofs.YtidfnpddheobdaaGreatDoor.facts
