import Derived.Test.YtbmabiedmdlinaaGreatDoorAxCoreN22
import Derived.Test.YtbmabiedmdlinaaGreatDoorAxO60
import Derived.KernelRfl
set_option linter.all false
namespace Go.Proofs.YtbmabiedmdlinaaGreatDoor.core
open Go.Ax Go.Ax.Sp
set_option linter.unusedVariables false
set_option maxRecDepth 1000000
noncomputable section
theorem ok_f75:SP 75 (sYes.spec oYes):=by
 refine Sig.sound (E:=en L185 [] true) okL185 (fn:=Tryz.f75) (by kernel_rfl) (by rfl) ?_
 intro u k h
 refine Eq.mp (α:=V.vAwakeSi u k) ?_ (O.vAwakeSi h)
 kernel_rfl
def L186:LS:=(75,sYes.spec oYes)::L185
theorem okL186:OKL L186:=Env.OK.cons okL185 (fn:=Tryz.f75) (by kernel_rfl) (by kernel_rfl) (by kernel_rfl) ok_f75
end
end Go.Proofs.YtbmabiedmdlinaaGreatDoor.core
