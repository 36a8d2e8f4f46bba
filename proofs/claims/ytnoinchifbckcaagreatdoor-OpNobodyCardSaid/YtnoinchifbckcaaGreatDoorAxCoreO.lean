import Derived.Test.YtnoinchifbckcaaGreatDoorAxCoreO0
import Derived.Test.YtnoinchifbckcaaGreatDoorAxO39
import Derived.KernelRfl
set_option linter.all false
namespace Go.Proofs.YtnoinchifbckcaaGreatDoor.core
open Go.Ax Go.Ax.Sp
set_option linter.unusedVariables false
set_option maxRecDepth 1000000
noncomputable section
def L179:LS:=(73,sYes.spec oYes)::L178
theorem okL179:OKL L179:=addK okL178 [(8,lAwO)] true (fn:=Tryz.f73) fun h=>O.vAwakeO h
theorem ok_f14:SP 14 (sOpNob.spec oOpNob):=Sig.sound (E:=en L179 [] true) okL179 (fn:=Tryz.f14) (by kernel_rfl) (by rfl) fun ⟨r,_⟩ k h=>Eq.mp (α:=V.vOpNob r k) (by kernel_rfl) (O.vOpNob h)
def L180:LS:=(14,sOpNob.spec oOpNob)::L179
theorem okL180:OKL L180:=Env.OK.cons okL179 (fn:=Tryz.f14) (by kernel_rfl) (by kernel_rfl) (by kernel_rfl) ok_f14
end
end Go.Proofs.YtnoinchifbckcaaGreatDoor.core
