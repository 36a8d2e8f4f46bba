import Derived.Test.YtnoinchifbckcaaGreatDoorAxCoreQ
import Derived.Test.YtnoinchifbckcaaGreatDoorAxO30
import Derived.KernelRfl
set_option linter.all false
namespace Go.Proofs.YtnoinchifbckcaaGreatDoor.core
open Go.Ax Go.Ax.Sp
set_option linter.unusedVariables false
set_option maxRecDepth 1000000
noncomputable section
theorem ok_f47:SP 47 (sAllQ.spec oAllQ):=Sig.sound (E:=en L164 [(4,lAllQ 37)] true) okL164 (fn:=Tryz.f47) (by kernel_rfl) (by rfl) fun ⟨s,l,_⟩ k h=>Eq.mp (α:=V.vAllQ s l k) (by kernel_rfl) (O.vAllQ h)
def L165:LS:=(47,sAllQ.spec oAllQ)::L164
theorem okL165:OKL L165:=Env.OK.cons okL164 (fn:=Tryz.f47) (by kernel_rfl) (by kernel_rfl) (by kernel_rfl) ok_f47
theorem ok_f9:SP 9 (sSeqItems.spec oSeqItems):=Sig.sound (E:=en L165 [(13,lItems1),(25,lItems2)] true) okL165 (fn:=Tryz.f9) (by kernel_rfl) (by rfl) fun ⟨n,l,r,_⟩ k h=>Eq.mp (α:=V.vSeqItems n l r k) (by kernel_rfl) (O.vSeqItems h)
def L166:LS:=(9,sSeqItems.spec oSeqItems)::L165
theorem okL166:OKL L166:=Env.OK.cons okL165 (fn:=Tryz.f9) (by kernel_rfl) (by kernel_rfl) (by kernel_rfl) ok_f9
end
end Go.Proofs.YtnoinchifbckcaaGreatDoor.core
