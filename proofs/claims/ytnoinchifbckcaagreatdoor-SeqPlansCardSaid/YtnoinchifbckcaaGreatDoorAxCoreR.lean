import Derived.Test.YtnoinchifbckcaaGreatDoorAxCoreQ
import Derived.Test.YtnoinchifbckcaaGreatDoorAxO29
import Derived.KernelRfl
set_option linter.all false
namespace Go.Proofs.YtnoinchifbckcaaGreatDoor.core
open Go.Ax Go.Ax.Sp
set_option linter.unusedVariables false
set_option maxRecDepth 1000000
noncomputable section
theorem ok_f7:SP 7 (sSeqD.spec oSeqD):=Sig.sound (E:=en L164 [(12,lSeqPlans)] true) okL164 (fn:=Tryz.f7) (by kernel_rfl) (by rfl) fun ⟨n,l,d,_⟩ k h=>Eq.mp (α:=V.vSeqPlans n l d k) (by kernel_rfl) (O.vSeqPlans h)
def L165:LS:=(7,sSeqD.spec oSeqD)::L164
theorem okL165:OKL L165:=Env.OK.cons okL164 (fn:=Tryz.f7) (by kernel_rfl) (by kernel_rfl) (by kernel_rfl) ok_f7
end
end Go.Proofs.YtnoinchifbckcaaGreatDoor.core
