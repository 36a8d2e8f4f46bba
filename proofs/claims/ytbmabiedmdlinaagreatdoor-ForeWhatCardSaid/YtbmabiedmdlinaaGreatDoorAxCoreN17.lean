import Derived.Test.YtbmabiedmdlinaaGreatDoorAxCoreN16
import Derived.Test.YtbmabiedmdlinaaGreatDoorAxO56
import Derived.KernelRfl
set_option linter.all false
namespace Go.Proofs.YtbmabiedmdlinaaGreatDoor.core
open Go.Ax Go.Ax.Sp
set_option linter.unusedVariables false
set_option maxRecDepth 1000000
noncomputable section
def L169:LS:=(72,sSumF.spec oSumF)::L168
theorem okL169:OKL L169:=addK okL168 [(3,lSumF)] true (fn:=Tryz.f72) fun h=>O.vSumF h
def L170:LS:=(71,sSubF.spec oSubF)::L169
theorem okL170:OKL L170:=addK okL169 [] true (fn:=Tryz.f71) fun h=>O.vSubF h
theorem ok_f69:SP 69 (sDelay.spec oDelay):=Sig.sound (E:=en L170 [(7,lDelay1),(13,lDelay2)] true) okL170 (fn:=Tryz.f69) (by kernel_rfl) (by rfl) fun ⟨s,r,n,_⟩ k h=>Eq.mp (α:=V.vDelay s r n k) (by kernel_rfl) (O.vDelay h)
def L171:LS:=(69,sDelay.spec oDelay)::L170
theorem okL171:OKL L171:=Env.OK.cons okL170 (fn:=Tryz.f69) (by kernel_rfl) (by kernel_rfl) (by kernel_rfl) ok_f69
end
end Go.Proofs.YtbmabiedmdlinaaGreatDoor.core
