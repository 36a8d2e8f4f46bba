import Derived.Test.YtidfnpddheobdaaGreatDoorAxCoreA1
import Derived.Test.YtidfnpddheobdaaGreatDoorAxO42
import Derived.KernelRfl
set_option linter.all false
namespace Go.Proofs.YtidfnpddheobdaaGreatDoor.core
open Go.Ax Go.Ax.Sp
set_option linter.unusedVariables false
set_option maxRecDepth 1000000
noncomputable section
theorem ok_f16:SP 16 (sYes.spec oYes):=by
 refine Sig.sound (E:=en L174 [(6,lAwP)] true) okL174 (fn:=Tryz.f16) (by kernel_rfl) (by rfl) ?_
 intro u k h
 refine Eq.mp (α:=V.vAwakeP u k) ?_ (O.vAwakeP h)
 kernel_rfl
def L175:LS:=(16,sYes.spec oYes)::L174
theorem okL175:OKL L175:=Env.OK.cons okL174 (fn:=Tryz.f16) (by kernel_rfl) (by kernel_rfl) (by kernel_rfl) ok_f16
end
end Go.Proofs.YtidfnpddheobdaaGreatDoor.core
