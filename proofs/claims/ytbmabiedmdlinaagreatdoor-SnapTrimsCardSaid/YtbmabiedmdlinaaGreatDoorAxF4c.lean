import Derived.Test.YtbmabiedmdlinaaGreatDoorRows
import Derived.Test.YtbmabiedmdlinaaGreatDoorProg
import Derived.JoinedOf
import Derived.KernelRfl
set_option linter.all false
namespace Go.Proofs.YtbmabiedmdlinaaGreatDoor.facts
open Go
theorem g1:(laidOutB Tryz.prog)=true:=by kernel_rfl
theorem g2:(mapsRowed Tryz.prog)=true:=by kernel_rfl
theorem g6:((Tryz.prog.stops==[]))=true:=by kernel_rfl
theorem g8:((Tryz.prog.stopKnobs==[]))=true:=by kernel_rfl
theorem g22:((Rows.opAloneRow.plainKeys==Tryz.prog.plainKeys))=true:=by kernel_rfl
theorem g24:(Tryz.prog.stopsHeard)=true:=by kernel_rfl
end Go.Proofs.YtbmabiedmdlinaaGreatDoor.facts
namespace Go.Proofs.YtbmabiedmdlinaaGreatDoor.facts
open Go
theorem g25:(Tryz.prog.mayEnter)=true:=by kernel_rfl
end Go.Proofs.YtbmabiedmdlinaaGreatDoor.facts
namespace Go.Proofs.YtbmabiedmdlinaaGreatDoor.facts
open Go
theorem g26:((Rows.opAloneRow.lifted==Tryz.prog.liftsFinal))=true:=by kernel_rfl
theorem g27:((Tryz.prog.make==some Rows.opAloneRow.make))=true:=by kernel_rfl
end Go.Proofs.YtbmabiedmdlinaaGreatDoor.facts
