import Derived.Test.YtbmabiedmdlinaaGreatDoorAxCoreN1
import Derived.Test.YtbmabiedmdlinaaGreatDoorAxO70
import Derived.KernelRfl
set_option linter.all false
namespace Go.Proofs.YtbmabiedmdlinaaGreatDoor.core
open Go.Ax Go.Ax.Sp
set_option linter.unusedVariables false
set_option maxRecDepth 1000000
noncomputable section
def L164:LS:=(113,sPutW.spec oPutW)::L163
theorem okL164:OKL L164:=addK okL163 [(3,lPutW)] true (fn:=Tryz.f113) fun h=>O.vPutW h
def L165:LS:=(51,sNewD.spec oNewD)::L164
theorem okL165:OKL L165:=addK okL164 [] true (fn:=Tryz.f51) fun h=>O.vNewD h
theorem ok_f111a:SP 111 (sNoneD.spec oNoneD):=Sig.sound (E:=en L165 [] true) okL165 (fn:=Tryz.f111) (by kernel_rfl) (by rfl) fun ⟨d,_⟩ k h=>Eq.mp (α:=V.vNoneD d k) (by kernel_rfl) (O.vNoneD h)
theorem ok_f111:SP 111 (nilSpec (sNoneD.spec oNoneD) (inlSpec (en L165 [] false) Tryz.f111)):=by
 exact nil_ok ok_f111a (inl_sound (E:=en L165 [] false) okL165 (fn:=Tryz.f111) (by kernel_rfl))
def L166:LS:=(111,nilSpec (sNoneD.spec oNoneD) (inlSpec (en L165 [] false) Tryz.f111))::L165
theorem okL166:OKL L166:=Env.OK.cons okL165 (fn:=Tryz.f111) (by kernel_rfl) (by kernel_rfl) (by kernel_rfl) ok_f111
theorem ok_f47a:SP 47 (sActD.spec oActD):=Sig.sound (E:=en L166 [] true) okL166 (fn:=Tryz.f47) (by kernel_rfl) (by rfl) fun ⟨d,x,_⟩ k h=>Eq.mp (α:=V.vActD d x k) (by kernel_rfl) (O.vActD h)
theorem ok_f47:SP 47 (nilSpec (sActD.spec oActD) (inlSpec (en L166 [] false) Tryz.f47)):=by
 exact nil_ok ok_f47a (inl_sound (E:=en L166 [] false) okL166 (fn:=Tryz.f47) (by kernel_rfl))
def L167:LS:=(47,nilSpec (sActD.spec oActD) (inlSpec (en L166 [] false) Tryz.f47))::L166
theorem okL167:OKL L167:=Env.OK.cons okL166 (fn:=Tryz.f47) (by kernel_rfl) (by kernel_rfl) (by kernel_rfl) ok_f47
end
end Go.Proofs.YtbmabiedmdlinaaGreatDoor.core
