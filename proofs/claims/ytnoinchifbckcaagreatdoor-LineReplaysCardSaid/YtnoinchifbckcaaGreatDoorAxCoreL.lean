import Derived.Test.YtnoinchifbckcaaGreatDoorAxCoreL0
import Derived.Test.YtnoinchifbckcaaGreatDoorAxO34
import Derived.KernelRfl
set_option linter.all false
namespace Go.Proofs.YtnoinchifbckcaaGreatDoor.core
open Go.Ax Go.Ax.Sp
set_option linter.unusedVariables false
set_option maxRecDepth 1000000
noncomputable section
theorem ok_f10:SP 10 (sLineR.spec oLineR):=Sig.sound (E:=en L165 [(13,lLineR)] true) okL165 (fn:=Tryz.f10) (by kernel_rfl) (by rfl) fun ⟨n,l,t,_⟩ k h=>Eq.mp (α:=V.vLineR n l t k) (by kernel_rfl) (O.vLineR h)
def L166:LS:=(10,sLineR.spec oLineR)::L165
theorem okL166:OKL L166:=Env.OK.cons okL165 (fn:=Tryz.f10) (by kernel_rfl) (by kernel_rfl) (by kernel_rfl) ok_f10
end
end Go.Proofs.YtnoinchifbckcaaGreatDoor.core
