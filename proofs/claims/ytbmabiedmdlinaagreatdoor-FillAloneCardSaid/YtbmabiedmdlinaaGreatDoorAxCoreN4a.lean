import Derived.Test.YtbmabiedmdlinaaGreatDoorAxCoreN4
import Derived.Test.YtbmabiedmdlinaaGreatDoorAxO53
import Derived.KernelRfl
set_option linter.all false
namespace Go.Proofs.YtbmabiedmdlinaaGreatDoor.core
open Go.Ax Go.Ax.Sp
set_option linter.unusedVariables false
set_option maxRecDepth 1000000
noncomputable section
theorem ok_f43:SP 43 (sYes.spec oYes):=by
 refine Sig.sound (E:=en L177 [(7,lAwFi)] true) okL177 (fn:=Tryz.f43) (by kernel_rfl) (by rfl) ?_
 intro u k h
 refine Eq.mp (α:=V.vAwakeFi u k) ?_ (O.vAwakeFi h)
 kernel_rfl
def L178:LS:=(43,sYes.spec oYes)::L177
theorem okL178:OKL L178:=Env.OK.cons okL177 (fn:=Tryz.f43) (by kernel_rfl) (by kernel_rfl) (by kernel_rfl) ok_f43
end
end Go.Proofs.YtbmabiedmdlinaaGreatDoor.core
