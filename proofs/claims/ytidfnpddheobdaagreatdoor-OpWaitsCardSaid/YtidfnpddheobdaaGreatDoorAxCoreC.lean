import Derived.Test.YtidfnpddheobdaaGreatDoorAxCoreA3
import Derived.Test.YtidfnpddheobdaaGreatDoorAxO43
import Derived.KernelRfl
set_option linter.all false
namespace Go.Proofs.YtidfnpddheobdaaGreatDoor.core
open Go.Ax Go.Ax.Sp
set_option linter.unusedVariables false
set_option maxRecDepth 1000000
noncomputable section
theorem ok_f5:SP 5 (sOpWait.spec oOpWait):=Sig.sound (E:=en L175 [(10,lOpWait)] true) okL175 (fn:=Tryz.f5) (by kernel_rfl) (by rfl) fun ⟨n,l,r,d,_⟩ k h=>Eq.mp (α:=V.vOpWait n l r d k) (by kernel_rfl) (O.vOpWait h)
def L176:LS:=(5,sOpWait.spec oOpWait)::L175
theorem okL176:OKL L176:=Env.OK.cons okL175 (fn:=Tryz.f5) (by kernel_rfl) (by kernel_rfl) (by kernel_rfl) ok_f5
end
end Go.Proofs.YtidfnpddheobdaaGreatDoor.core
