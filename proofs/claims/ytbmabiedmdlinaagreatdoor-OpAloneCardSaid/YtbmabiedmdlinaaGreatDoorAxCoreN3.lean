import Derived.Test.YtbmabiedmdlinaaGreatDoorAxCoreN2
import Derived.Test.YtbmabiedmdlinaaGreatDoorAxO51
import Derived.KernelRfl
set_option linter.all false
namespace Go.Proofs.YtbmabiedmdlinaaGreatDoor.core
open Go.Ax Go.Ax.Sp
set_option linter.unusedVariables false
set_option maxRecDepth 1000000
noncomputable section
theorem ok_f3:SP 3 (sOpD.spec oOpD):=Sig.sound (E:=en L164 [(13,lOpAl1),(20,lOpAl2),(20017,lOpAl1),(20027,lOpAl2)] true) okL164 (fn:=Tryz.f3) (by kernel_rfl) (by rfl) fun ⟨n,l,r,_⟩ k h=>Eq.mp (α:=V.vOpAlone n l r k) (by kernel_rfl) (O.vOpAlone h)
def L165:LS:=(3,sOpD.spec oOpD)::L164
theorem okL165:OKL L165:=Env.OK.cons okL164 (fn:=Tryz.f3) (by kernel_rfl) (by kernel_rfl) (by kernel_rfl) ok_f3
end
end Go.Proofs.YtbmabiedmdlinaaGreatDoor.core
