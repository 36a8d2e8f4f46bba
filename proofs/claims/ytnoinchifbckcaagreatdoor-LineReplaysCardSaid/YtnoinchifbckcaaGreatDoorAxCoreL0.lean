import Derived.Test.YtnoinchifbckcaaGreatDoorAxCoreQ
import Derived.Test.YtnoinchifbckcaaGreatDoorAxO33
import Derived.KernelRfl
set_option linter.all false
namespace Go.Proofs.YtnoinchifbckcaaGreatDoor.core
open Go.Ax Go.Ax.Sp
set_option linter.unusedVariables false
set_option maxRecDepth 1000000
noncomputable section
def L158:LS:=(114,sTdo.spec oTdo)::L157
theorem okL158:OKL L158:=addK okL157 [] true (fn:=Tryz.f114) fun h=>O.vTdo h
theorem ok_f48:SP 48 (packSpec 0 3 (sReplay.spec oReplay)):=by
 refine Sig.soundP 0 3 (E:=en L158 [(6,lReplay)] true) okL158 (fn:=Tryz.f48) (by kernel_rfl) (by rfl) ?_
 intro x k h
 obtain ⟨n,l,_⟩:=x
 refine Eq.mp (α:=V.vReplay n l k) ?_ (O.vReplay h)
 kernel_rfl
def L159:LS:=(48,packSpec 0 3 (sReplay.spec oReplay))::L158
theorem okL159:OKL L159:=Env.OK.cons okL158 (fn:=Tryz.f48) (by kernel_rfl) (by kernel_rfl) (by kernel_rfl) ok_f48
theorem ok_f52:SP 52 (packSpec 3 0 (sTell1.spec oTell1)):=by
 refine Sig.soundP 3 0 (E:=en L159 [(2,lTell1)] true) okL159 (fn:=Tryz.f52) (by kernel_rfl) (by rfl) ?_
 intro x k h
 obtain ⟨s,a,b,t,_⟩:=x
 refine Eq.mp (α:=V.vTell1 s a b t k) ?_ (O.vTell1 h)
 kernel_rfl
def L160:LS:=(52,packSpec 3 0 (sTell1.spec oTell1))::L159
theorem okL160:OKL L160:=Env.OK.cons okL159 (fn:=Tryz.f52) (by kernel_rfl) (by kernel_rfl) (by kernel_rfl) ok_f52
def L161:LS:=(49,sAgrees.spec oAgrees)::L160
theorem okL161:OKL L161:=addK okL160 [(5,lAgrees)] true (fn:=Tryz.f49) fun h=>O.vAgrees h
def L162:LS:=(53,sCalls.spec oCalls)::L161
theorem okL162:OKL L162:=addK okL161 [(3,lCalls)] true (fn:=Tryz.f53) fun h=>O.vCalls h
def L163:LS:=(54,sRefuse.spec oRefuse)::L162
theorem okL163:OKL L163:=addK okL162 [] true (fn:=Tryz.f54) fun h=>O.vRefuse h
def L164:LS:=(51,sReplayM.spec oReplayM)::L163
theorem okL164:OKL L164:=addK okL163 [(4,lReplayM)] true (fn:=Tryz.f51) fun h=>O.vReplayM h
theorem ok_f50:SP 50 (sYes.spec oYes):=by
 refine Sig.sound (E:=en L164 [] true) okL164 (fn:=Tryz.f50) (by kernel_rfl) (by rfl) ?_
 intro u k h
 refine Eq.mp (α:=V.vAwakeL u k) ?_ (O.vAwakeL h)
 kernel_rfl
def L165:LS:=(50,sYes.spec oYes)::L164
theorem okL165:OKL L165:=Env.OK.cons okL164 (fn:=Tryz.f50) (by kernel_rfl) (by kernel_rfl) (by kernel_rfl) ok_f50
end
end Go.Proofs.YtnoinchifbckcaaGreatDoor.core
