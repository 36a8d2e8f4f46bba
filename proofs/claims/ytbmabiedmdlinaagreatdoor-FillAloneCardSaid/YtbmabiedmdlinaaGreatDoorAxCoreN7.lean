import Derived.Test.YtbmabiedmdlinaaGreatDoorAxCoreN4a
import Derived.Test.YtbmabiedmdlinaaGreatDoorAxO55
import Derived.KernelRfl
set_option linter.all false
namespace Go.Proofs.YtbmabiedmdlinaaGreatDoor.core
open Go.Ax Go.Ax.Sp
set_option linter.unusedVariables false
set_option maxRecDepth 1000000
noncomputable section
theorem ok_f6:SP 6 (sFillA.spec oFillA):=Sig.sound (E:=en L178 [(12,lFillA1),(20023,lFillA1),(27,lFillA2)] true) okL178 (fn:=Tryz.f6) (by kernel_rfl) (by rfl) fun ⟨n,l,a,b,_⟩ k h=>Eq.mp (α:=V.vFillA n l a b k) (by kernel_rfl) (O.vFillA h)
def L179:LS:=(6,sFillA.spec oFillA)::L178
theorem okL179:OKL L179:=Env.OK.cons okL178 (fn:=Tryz.f6) (by kernel_rfl) (by kernel_rfl) (by kernel_rfl) ok_f6
end
end Go.Proofs.YtbmabiedmdlinaaGreatDoor.core
