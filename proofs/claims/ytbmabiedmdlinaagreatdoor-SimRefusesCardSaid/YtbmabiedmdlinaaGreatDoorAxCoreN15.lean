import Derived.Test.YtbmabiedmdlinaaGreatDoorAxCoreN23
import Derived.Test.YtbmabiedmdlinaaGreatDoorAxO60
import Derived.KernelRfl
set_option linter.all false
namespace Go.Proofs.YtbmabiedmdlinaaGreatDoor.core
open Go.Ax Go.Ax.Sp
set_option linter.unusedVariables false
set_option maxRecDepth 1000000
noncomputable section
theorem ok_f14:SP 14 (sSimR.spec oSimR):=Sig.sound (E:=en L186 [(11,lSimR1),(30011,lSimR2)] true) okL186 (fn:=Tryz.f14) (by kernel_rfl) (by rfl) fun ⟨n,d,l,_⟩ k h=>Eq.mp (α:=V.vSimR n d l k) (by kernel_rfl) (O.vSimR h)
def L187:LS:=(14,sSimR.spec oSimR)::L186
theorem okL187:OKL L187:=Env.OK.cons okL186 (fn:=Tryz.f14) (by kernel_rfl) (by kernel_rfl) (by kernel_rfl) ok_f14
end
end Go.Proofs.YtbmabiedmdlinaaGreatDoor.core
