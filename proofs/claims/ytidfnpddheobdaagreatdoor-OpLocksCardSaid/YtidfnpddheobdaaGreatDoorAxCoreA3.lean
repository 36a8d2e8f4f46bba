import Derived.Test.YtidfnpddheobdaaGreatDoorAxCoreA1
import Derived.Test.YtidfnpddheobdaaGreatDoorAxO39
import Derived.KernelRfl
set_option linter.all false
namespace Go.Proofs.YtidfnpddheobdaaGreatDoor.core
open Go.Ax Go.Ax.Sp
set_option linter.unusedVariables false
set_option maxRecDepth 1000000
noncomputable section
theorem ok_f20:SP 20 (sYes.spec oYes):=by
 refine Sig.sound (E:=en L174 [(8,lAwO)] true) okL174 (fn:=Tryz.f20) (by kernel_rfl) (by rfl) ?_
 intro u k h
 refine Eq.mp (α:=V.vAwakeO u k) ?_ (O.vAwakeO h)
 kernel_rfl
def L175:LS:=(20,sYes.spec oYes)::L174
theorem okL175:OKL L175:=Env.OK.cons okL174 (fn:=Tryz.f20) (by kernel_rfl) (by kernel_rfl) (by kernel_rfl) ok_f20
end
end Go.Proofs.YtidfnpddheobdaaGreatDoor.core
