import Derived.Test.YtidfnpddheobdaaGreatDoorAxCoreI
import Derived.Test.YtidfnpddheobdaaGreatDoorAxO50
import Derived.KernelRfl
set_option linter.all false
namespace Go.Proofs.YtidfnpddheobdaaGreatDoor.core
open Go.Ax Go.Ax.Sp
set_option linter.unusedVariables false
set_option maxRecDepth 1000000
noncomputable section
theorem ok_f10:SP 10 (sForeD.spec oForeD):=Sig.sound (E:=en L179 [(12,lForeS1),(20,lForeS2)] true) okL179 (fn:=Tryz.f10) (by kernel_rfl) (by rfl) fun ⟨n,l,_⟩ k h=>Eq.mp (α:=V.vForeSt n l k) (by kernel_rfl) (O.vForeSt h)
def L180:LS:=(10,sForeD.spec oForeD)::L179
theorem okL180:OKL L180:=Env.OK.cons okL179 (fn:=Tryz.f10) (by kernel_rfl) (by kernel_rfl) (by kernel_rfl) ok_f10
end
end Go.Proofs.YtidfnpddheobdaaGreatDoor.core
