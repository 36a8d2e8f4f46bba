import Derived.Test.YtidfnpddheobdaaGreatDoorAxCoreE
import Derived.Test.YtidfnpddheobdaaGreatDoorAxO46
import Derived.KernelRfl
set_option linter.all false
namespace Go.Proofs.YtidfnpddheobdaaGreatDoor.core
open Go.Ax Go.Ax.Sp
set_option linter.unusedVariables false
set_option maxRecDepth 1000000
noncomputable section
theorem ok_f6:SP 6 (sPassQ.spec oPassQ):=Sig.sound (E:=en L178 [(15,lPassQ1),(20,lPassQ2),(23,lPassQ3)] true) okL178 (fn:=Tryz.f6) (by kernel_rfl) (by rfl) fun ⟨n,l,_⟩ k h=>Eq.mp (α:=V.vPassQ n l k) (by kernel_rfl) (O.vPassQ h)
def L179:LS:=(6,sPassQ.spec oPassQ)::L178
theorem okL179:OKL L179:=Env.OK.cons okL178 (fn:=Tryz.f6) (by kernel_rfl) (by kernel_rfl) (by kernel_rfl) ok_f6
end
end Go.Proofs.YtidfnpddheobdaaGreatDoor.core
