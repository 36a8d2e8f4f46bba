import Derived.Test.YtidfnpddheobdaaGreatDoorAxCoreA3
import Derived.Test.YtidfnpddheobdaaGreatDoorAxO44
import Derived.KernelRfl
set_option linter.all false
namespace Go.Proofs.YtidfnpddheobdaaGreatDoor.core
open Go.Ax Go.Ax.Sp
set_option linter.unusedVariables false
set_option maxRecDepth 1000000
noncomputable section
theorem ok_f4:SP 4 (sOpD.spec oOpD):=Sig.sound (E:={P:=Tryz.prog,spec:=L175,ek:=ek0,loops:=[(10,lOpLock),(16,lOpLockC)],n0:=0,sharp:=true,lit:=true}) okL175 (fn:=Tryz.f4) (by kernel_rfl) (by rfl) fun ⟨n,l,r,_⟩ k h=>Eq.mp (α:=V.vOpLock n l r k) (by kernel_rfl) (O.vOpLock h)
def L176:LS:=(4,sOpD.spec oOpD)::L175
theorem okL176:OKL L176:=Env.OK.cons okL175 (fn:=Tryz.f4) (by kernel_rfl) (by kernel_rfl) (by kernel_rfl) ok_f4
end
end Go.Proofs.YtidfnpddheobdaaGreatDoor.core
