import Derived.Test.YtidfnpddheobdaaGreatDoorAxCoreE
import Derived.Test.YtidfnpddheobdaaGreatDoorAxO47
import Derived.KernelRfl
set_option linter.all false
namespace Go.Proofs.YtidfnpddheobdaaGreatDoor.core
open Go.Ax Go.Ax.Sp
set_option linter.unusedVariables false
set_option maxRecDepth 1000000
noncomputable section
theorem ok_f8:SP 8 (sPassD.spec oPassD):=Sig.sound (E:=en L178 [(13,lPassO1)] true) okL178 (fn:=Tryz.f8) (by kernel_rfl) (by rfl) fun ⟨n,l,d,_⟩ k h=>Eq.mp (α:=V.vPassO n l d k) (by kernel_rfl) (O.vPassO h)
def L179:LS:=(8,sPassD.spec oPassD)::L178
theorem okL179:OKL L179:=Env.OK.cons okL178 (fn:=Tryz.f8) (by kernel_rfl) (by kernel_rfl) (by kernel_rfl) ok_f8
end
end Go.Proofs.YtidfnpddheobdaaGreatDoor.core
