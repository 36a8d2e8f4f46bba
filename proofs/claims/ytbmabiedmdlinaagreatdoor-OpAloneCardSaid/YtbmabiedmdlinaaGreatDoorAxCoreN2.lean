import Derived.Test.YtbmabiedmdlinaaGreatDoorAxCoreN1
import Derived.Test.YtbmabiedmdlinaaGreatDoorAxO39
import Derived.KernelRfl
set_option linter.all false
namespace Go.Proofs.YtbmabiedmdlinaaGreatDoor.core
open Go.Ax Go.Ax.Sp
set_option linter.unusedVariables false
set_option maxRecDepth 1000000
noncomputable section
theorem ok_f16:SP 16 (sYes.spec oYes):=by
 refine Sig.sound (E:=en L163 [(8,lAwO)] true) okL163 (fn:=Tryz.f16) (by kernel_rfl) (by rfl) ?_
 intro u k h
 refine Eq.mp (α:=V.vAwakeO u k) ?_ (O.vAwakeO h)
 kernel_rfl
def L164:LS:=(16,sYes.spec oYes)::L163
theorem okL164:OKL L164:=Env.OK.cons okL163 (fn:=Tryz.f16) (by kernel_rfl) (by kernel_rfl) (by kernel_rfl) ok_f16
end
end Go.Proofs.YtbmabiedmdlinaaGreatDoor.core
