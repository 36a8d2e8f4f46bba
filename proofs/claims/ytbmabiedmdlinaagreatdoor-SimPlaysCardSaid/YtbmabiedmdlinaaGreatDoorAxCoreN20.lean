import Derived.Test.YtbmabiedmdlinaaGreatDoorAxCoreN1
import Derived.Test.YtbmabiedmdlinaaGreatDoorAxO45
import Derived.KernelRfl
set_option linter.all false
namespace Go.Proofs.YtbmabiedmdlinaaGreatDoor.core
open Go.Ax Go.Ax.Sp
set_option linter.unusedVariables false
set_option maxRecDepth 1000000
noncomputable section
theorem ok_f141:SP 141 (sSettle.spec oSettle):=Sig.sound (E:=en L163 [(2,lSettle)] true) okL163 (fn:=Tryz.f141) (by kernel_rfl) (by rfl) fun ⟨s,n,m,_⟩ k h=>Eq.mp (α:=V.vSettle s n m k) (by kernel_rfl) (O.vSettle h)
def L164:LS:=(141,sSettle.spec oSettle)::L163
theorem okL164:OKL L164:=Env.OK.cons okL163 (fn:=Tryz.f141) (by kernel_rfl) (by kernel_rfl) (by kernel_rfl) ok_f141
end
end Go.Proofs.YtbmabiedmdlinaaGreatDoor.core
