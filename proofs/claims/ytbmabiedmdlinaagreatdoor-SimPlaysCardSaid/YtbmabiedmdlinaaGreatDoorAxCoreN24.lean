import Derived.Test.YtbmabiedmdlinaaGreatDoorAxCoreN23
import Derived.Test.YtbmabiedmdlinaaGreatDoorAxO61
import Derived.KernelRfl
set_option linter.all false
namespace Go.Proofs.YtbmabiedmdlinaaGreatDoor.core
open Go.Ax Go.Ax.Sp
set_option linter.unusedVariables false
set_option maxRecDepth 1000000
noncomputable section
def L187:LS:=(73,sSomeE.spec oSomeE)::L186
theorem okL187:OKL L187:=addK okL186 [(3,lSomeE)] true (fn:=Tryz.f73) fun h=>O.vSomeE h
def L188:LS:=(140,sDonePl.spec oDonePl)::L187
theorem okL188:OKL L188:=addK okL187 [] true (fn:=Tryz.f140) fun h=>O.vDonePl h
def L189:LS:=(138,sNextPl28.spec oNextPl28)::L188
theorem okL189:OKL L189:=addK okL188 [(6,lNextP)] true (fn:=Tryz.f138) fun h=>O.vNextPl28 h
def L190:LS:=(77,sStepPl.spec oStepPl)::L189
theorem okL190:OKL L190:=addK okL189 [(8,lStepP1),(13,lStepP2)] true (fn:=Tryz.f77) fun h=>O.vStepPl h
theorem ok_f79:SP 79 (packSpec 4 0 (sSame28.spec oSame28)):=by
 refine Sig.soundP 4 0 (E:=en L190 [(4,lSame28)] true) okL190 (fn:=Tryz.f79) (by kernel_rfl) (by rfl) ?_
 intro x k h
 obtain ⟨a,b,c,d,p,_⟩:=x
 refine Eq.mp (α:=V.vSame28 a b c d p k) ?_ (O.vSame28 h)
 kernel_rfl
def L191:LS:=(79,packSpec 4 0 (sSame28.spec oSame28))::L190
theorem okL191:OKL L191:=Env.OK.cons okL190 (fn:=Tryz.f79) (by kernel_rfl) (by kernel_rfl) (by kernel_rfl) ok_f79
end
end Go.Proofs.YtbmabiedmdlinaaGreatDoor.core
