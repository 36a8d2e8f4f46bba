import Derived.Test.YtbmabiedmdlinaaGreatDoorAxCoreN17
import Derived.Test.YtbmabiedmdlinaaGreatDoorAxO56
import Derived.KernelRfl
set_option linter.all false
namespace Go.Proofs.YtbmabiedmdlinaaGreatDoor.core
open Go.Ax Go.Ax.Sp
set_option linter.unusedVariables false
set_option maxRecDepth 1000000
noncomputable section
theorem ok_f12:SP 12 (sForeW.spec oForeW):=Sig.sound (E:=en L171 [(20,lForeW1),(25,lForeW2),(29,lForeW3)] true) okL171 (fn:=Tryz.f12) (by kernel_rfl) (by rfl) fun ⟨n,l,r,m,_⟩ k h=>Eq.mp (α:=V.vForeW n l r m k) (by kernel_rfl) (O.vForeW h)
def L172:LS:=(12,sForeW.spec oForeW)::L171
theorem okL172:OKL L172:=Env.OK.cons okL171 (fn:=Tryz.f12) (by kernel_rfl) (by kernel_rfl) (by kernel_rfl) ok_f12
end
end Go.Proofs.YtbmabiedmdlinaaGreatDoor.core
