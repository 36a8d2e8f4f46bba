import Derived.Test.YtbmabiedmdlinaaGreatDoorAxCoreN16
import Derived.Test.YtbmabiedmdlinaaGreatDoorAxO58
import Derived.KernelRfl
set_option linter.all false
namespace Go.Proofs.YtbmabiedmdlinaaGreatDoor.core
open Go.Ax Go.Ax.Sp
set_option linter.unusedVariables false
set_option maxRecDepth 1000000
noncomputable section
theorem ok_f11:SP 11 (sPassD.spec oPassD):=Sig.sound (E:=en L168 [(8,lForeC)] true) okL168 (fn:=Tryz.f11) (by kernel_rfl) (by rfl) fun ⟨n,l,d,_⟩ k h=>Eq.mp (α:=V.vForeC n l d k) (by kernel_rfl) (O.vForeC h)
def L169:LS:=(11,sPassD.spec oPassD)::L168
theorem okL169:OKL L169:=Env.OK.cons okL168 (fn:=Tryz.f11) (by kernel_rfl) (by kernel_rfl) (by kernel_rfl) ok_f11
end
end Go.Proofs.YtbmabiedmdlinaaGreatDoor.core
