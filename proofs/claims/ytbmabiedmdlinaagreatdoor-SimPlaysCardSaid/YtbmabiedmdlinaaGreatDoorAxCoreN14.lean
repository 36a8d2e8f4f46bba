import Derived.Test.YtbmabiedmdlinaaGreatDoorAxCoreN24
import Derived.Test.YtbmabiedmdlinaaGreatDoorAxO62
import Derived.KernelRfl
set_option linter.all false
namespace Go.Proofs.YtbmabiedmdlinaaGreatDoor.core
open Go.Ax Go.Ax.Sp
set_option linter.unusedVariables false
set_option maxRecDepth 1000000
noncomputable section
theorem ok_f13:SP 13 (sSimP.spec oSimP):=Sig.sound (E:=en L191 [(10,lSimP)] true) okL191 (fn:=Tryz.f13) (by kernel_rfl) (by rfl) fun ⟨n,d,l,m,_⟩ k h=>Eq.mp (α:=V.vSimP n d l m k) (by kernel_rfl) (O.vSimP h)
def L192:LS:=(13,sSimP.spec oSimP)::L191
theorem okL192:OKL L192:=Env.OK.cons okL191 (fn:=Tryz.f13) (by kernel_rfl) (by kernel_rfl) (by kernel_rfl) ok_f13
end
end Go.Proofs.YtbmabiedmdlinaaGreatDoor.core
