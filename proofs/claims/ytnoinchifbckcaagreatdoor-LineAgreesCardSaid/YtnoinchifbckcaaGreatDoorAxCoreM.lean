import Derived.Test.YtnoinchifbckcaaGreatDoorAxCoreL0
import Derived.Test.YtnoinchifbckcaaGreatDoorAxO35
import Derived.KernelRfl
set_option linter.all false
namespace Go.Proofs.YtnoinchifbckcaaGreatDoor.core
open Go.Ax Go.Ax.Sp
set_option linter.unusedVariables false
set_option maxRecDepth 1000000
noncomputable section
theorem ok_f11:SP 11 (sLineA.spec oLineA):=Sig.sound (E:=en L165 [(9,lLineA1),(16,lLineA2),(26,lLineA3)] true) okL165 (fn:=Tryz.f11) (by kernel_rfl) (by rfl) fun ⟨n,l,_⟩ k h=>Eq.mp (α:=V.vLineA n l k) (by kernel_rfl) (O.vLineA h)
def L166:LS:=(11,sLineA.spec oLineA)::L165
theorem okL166:OKL L166:=Env.OK.cons okL165 (fn:=Tryz.f11) (by kernel_rfl) (by kernel_rfl) (by kernel_rfl) ok_f11
end
end Go.Proofs.YtnoinchifbckcaaGreatDoor.core
