import Derived.Test.YtidfnpddheobdaaGreatDoorAxCoreA2
import Derived.KernelRfl
set_option linter.all false
namespace Go.Proofs.YtidfnpddheobdaaGreatDoor.core
open Go.Ax Go.Ax.Sp
set_option linter.unusedVariables false
set_option maxRecDepth 1000000
noncomputable section
theorem ok_f3:SP 3 (sPassD.spec oPassD):=Sig.sound (E:=en L175 [(10,lPassLow)] true) okL175 (fn:=Tryz.f3) (by kernel_rfl) (by rfl) fun ⟨n,l,d,_⟩ k h=>Eq.mp (α:=V.vPassLow n l d k) (by kernel_rfl) (O.vPassLow h)
def L176:LS:=(3,sPassD.spec oPassD)::L175
theorem okL176:OKL L176:=Env.OK.cons okL175 (fn:=Tryz.f3) (by kernel_rfl) (by kernel_rfl) (by kernel_rfl) ok_f3
end
end Go.Proofs.YtidfnpddheobdaaGreatDoor.core
