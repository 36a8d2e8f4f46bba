import Derived.Test.YtidfnpddheobdaaGreatDoorRows
import Derived.Test.YtidfnpddheobdaaGreatDoorProg
import Derived.JoinedOf
import Derived.KernelRfl
set_option linter.all false
namespace Go.Proofs.YtidfnpddheobdaaGreatDoor.facts
open Go
theorem g1:(laidOutB Tryz.prog)=true:=by kernel_rfl
theorem g2:(mapsRowed Tryz.prog)=true:=by kernel_rfl
theorem g6:((Tryz.prog.stops==[]))=true:=by kernel_rfl
theorem g8:((Tryz.prog.stopKnobs==[]))=true:=by kernel_rfl
theorem g22:((Rows.passLowersRow.plainKeys==Tryz.prog.plainKeys))=true:=by kernel_rfl
theorem g24:(Tryz.prog.stopsHeard)=true:=by kernel_rfl
end Go.Proofs.YtidfnpddheobdaaGreatDoor.facts
