import Derived.Test.YtbmabiedmdlinaaGreatDoorAxCoreN31
import Derived.Test.YtbmabiedmdlinaaGreatDoorAxO73
import Derived.KernelRfl
set_option linter.all false
namespace Go.Proofs.YtbmabiedmdlinaaGreatDoor.core
open Go.Ax Go.Ax.Sp
set_option linter.unusedVariables false
set_option maxRecDepth 1000000
noncomputable section
theorem ok_f8:SP 8 (sSnapT.spec oSnapT):=Sig.sound (E:=en L176 [(4,lSnapT1),(15,lSnapT2),(24,lSnapT3),(28,lSnapT4)] true) okL176 (fn:=Tryz.f8) (by kernel_rfl) (by rfl) fun ⟨n,l,_⟩ k h=>Eq.mp (α:=V.vSnapT n l k) (by kernel_rfl) (O.vSnapT h)
def L177:LS:=(8,sSnapT.spec oSnapT)::L176
theorem okL177:OKL L177:=Env.OK.cons okL176 (fn:=Tryz.f8) (by kernel_rfl) (by kernel_rfl) (by kernel_rfl) ok_f8
end
end Go.Proofs.YtbmabiedmdlinaaGreatDoor.core
