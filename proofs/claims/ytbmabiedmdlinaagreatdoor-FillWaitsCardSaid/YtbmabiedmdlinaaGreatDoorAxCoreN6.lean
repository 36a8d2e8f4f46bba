import Derived.Test.YtbmabiedmdlinaaGreatDoorAxCoreN4a
import Derived.Test.YtbmabiedmdlinaaGreatDoorAxO54
import Derived.KernelRfl
set_option linter.all false
namespace Go.Proofs.YtbmabiedmdlinaaGreatDoor.core
open Go.Ax Go.Ax.Sp
set_option linter.unusedVariables false
set_option maxRecDepth 1000000
noncomputable section
theorem ok_f5:SP 5 (sPassD.spec oPassD):=Sig.sound (E:=en L178 [(9,lFillW),(20012,lFillW)] true) okL178 (fn:=Tryz.f5) (by kernel_rfl) (by rfl) fun ⟨n,l,d,_⟩ k h=>Eq.mp (α:=V.vFillW n l d k) (by kernel_rfl) (O.vFillW h)
def L179:LS:=(5,sPassD.spec oPassD)::L178
theorem okL179:OKL L179:=Env.OK.cons okL178 (fn:=Tryz.f5) (by kernel_rfl) (by kernel_rfl) (by kernel_rfl) ok_f5
end
end Go.Proofs.YtbmabiedmdlinaaGreatDoor.core
