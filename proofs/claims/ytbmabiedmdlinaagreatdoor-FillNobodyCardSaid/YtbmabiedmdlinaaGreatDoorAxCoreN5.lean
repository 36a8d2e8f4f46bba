import Derived.Test.YtbmabiedmdlinaaGreatDoorAxCoreN4a
import Derived.Test.YtbmabiedmdlinaaGreatDoorAxO53
import Derived.KernelRfl
set_option linter.all false
namespace Go.Proofs.YtbmabiedmdlinaaGreatDoor.core
open Go.Ax Go.Ax.Sp
set_option linter.unusedVariables false
set_option maxRecDepth 1000000
noncomputable section
theorem ok_f4:SP 4 (sFillN.spec oFillN):=Sig.sound (E:=en L178 [] true) okL178 (fn:=Tryz.f4) (by kernel_rfl) (by rfl) fun ⟨n,_⟩ k h=>Eq.mp (α:=V.vFillNob n k) (by kernel_rfl) (O.vFillNob h)
def L179:LS:=(4,sFillN.spec oFillN)::L178
theorem okL179:OKL L179:=Env.OK.cons okL178 (fn:=Tryz.f4) (by kernel_rfl) (by kernel_rfl) (by kernel_rfl) ok_f4
end
end Go.Proofs.YtbmabiedmdlinaaGreatDoor.core
