import Derived.Test.YtidfnpddheobdaaGreatDoorAxCoreA2
import Derived.Test.YtidfnpddheobdaaGreatDoorAxO48
import Derived.KernelRfl
set_option linter.all false
namespace Go.Proofs.YtidfnpddheobdaaGreatDoor.core
open Go.Ax Go.Ax.Sp
set_option linter.unusedVariables false
set_option maxRecDepth 1000000
noncomputable section
theorem ok_f7:SP 7 (sPassD.spec oPassD):=Sig.sound (E:=en L175 [(14,lPassR1),(26,lPassR2)] true) okL175 (fn:=Tryz.f7) (by kernel_rfl) (by rfl) fun ⟨n,l,d,_⟩ k h=>Eq.mp (α:=V.vPassR n l d k) (by kernel_rfl) (O.vPassR h)
def L176:LS:=(7,sPassD.spec oPassD)::L175
theorem okL176:OKL L176:=Env.OK.cons okL175 (fn:=Tryz.f7) (by kernel_rfl) (by kernel_rfl) (by kernel_rfl) ok_f7
end
end Go.Proofs.YtidfnpddheobdaaGreatDoor.core
